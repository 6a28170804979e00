/- Package place, by its contracts: two of them, and between. -/
import Derived.Test.YtlbnafnbjgageaaGreatDoorPlace
namespace Go.Proofs.YtlbnafnbjgageaaGreatDoor
open Go.RowKit
theorem bytesLess_dec : ∀ (x y : List UInt8), Go.Op.bytesLess x y = decide (x < y)
  | x, [] => by cases x <;> simp [Go.Op.bytesLess]
  | [], y :: ys => by simp [Go.Op.bytesLess]
  | x :: xs, y :: ys => by
    rw [Go.Op.bytesLess, bytesLess_dec xs ys]
    rw [Bool.eq_iff_iff]
    simp [List.cons_lt_cons_iff]
theorem place_check_to (s : ByteArray) (w : World) (r : Int) (hs : s.size ≤ 9223372036854775807) (hr : placeErr s.data.toList = r) :
    Calls Tryz.prog 198 #[.string s] w fun e w' => e = .returned (errV r) ∧ Below w.heap.size w w' := by
  subst hr; exact place_check s w hs
theorem place_check_ok (s : ByteArray) (w : World) (hs : s.size ≤ 9223372036854775807) (hr : placeErr s.data.toList = 0) :
    Calls Tryz.prog 198 #[.string s] w fun e w' => e = .returned .nilIface ∧ Below w.heap.size w w' := place_check_to s w 0 hs hr
theorem place_check_bad (s : ByteArray) (w : World) (r : Int) (hs : s.size ≤ 9223372036854775807) (hr : placeErr s.data.toList = r) (h0 : r ≠ 0) :
    Calls Tryz.prog 198 #[.string s] w fun e w' => e = .returned (.iface 160 (.int .i64 r)) ∧ Below w.heap.size w w' := by
  rw [← errV_ne h0]; exact place_check_to s w r hs hr
set_option maxRecDepth 100000 in
set_option maxHeartbeats 2000000 in
theorem ready_is (a b : ByteArray) (w : World) (ha : a.size ≤ 9223372036854775807) (hb : b.size ≤ 9223372036854775807) :
    Calls Tryz.prog 267 #[.string a, .string b] w fun e w' => e = .returned (errV (twoErr a.data.toList b.data.toList)) ∧ Below w.heap.size w w' := by
  obtain ⟨ra, hra⟩ : ∃ r, placeErr a.data.toList = r := ⟨_, rfl⟩
  obtain ⟨rb, hrb⟩ : ∃ r, placeErr b.data.toList = r := ⟨_, rfl⟩
  obtain ⟨lt, hlt⟩ : ∃ r, Go.Op.bytesLess a.toList b.toList = r := ⟨_, rfl⟩
  have htwo : twoErr a.data.toList b.data.toList = if a.toList.isEmpty = false ∧ ra ≠ 0 then ra else if b.toList.isEmpty = false ∧ rb ≠ 0 then rb else if a.toList.isEmpty = false ∧ b.toList.isEmpty = false ∧ lt = false then 3 else 0 := by
    unfold twoErr
    rw [hra, hrb, ← hlt, bytesLess_dec, ByteArray.toList_eq, ByteArray.toList_eq]
    cases a.data.toList <;> cases b.data.toList <;> simp
  have HT := Lib.hid htwo
  have HRA := Lib.hid hra
  have HRB := Lib.hid hrb
  clear htwo hra hrb
  cases hea : a.toList.isEmpty <;> cases heb : b.toList.isEmpty <;> rw [hea, heb] at HT
  · -- neither is empty
    by_cases h0 : ra = 0
    · subst h0
      by_cases h1 : rb = 0
      · subst h1
        cases lt
        all_goals
          have HF := Lib.hid (errV_at HT.out)
          go_enter Tryz.func267, Tryz.ntmps267
          go_wp2
          refine wp_loop_rounds 3 ?_
          rw [rounds_succ]
          go_wp2_with fail
          refine (place_check_ok _ _ ha HRA.out).mono ?_
          rintro e w1 ⟨rfl, hb1⟩
          have c1 : w1.cell? ⟨w.heap.size, 1, none⟩ = some (.string b) := (hb1.cell (p := ⟨w.heap.size, 1, none⟩) (by simp)).trans (by simp)
          go_wp2_with fail
          rw [rounds_succ]
          go_wp2_with fail
          refine (place_check_ok _ _ hb HRB.out).mono ?_
          rintro e w2 ⟨rfl, hb2⟩
          go_wp2_with fail
          rw [rounds_succ]
          go_wp2_with fail
          go_ret
          exact ⟨ret_eq (by rw [HF.out]; rfl), (past_alloc hb1 (by simp)).trans (hb2.mono (by have := (past_alloc hb1 (by simp)).size; omega))⟩
      · have HF := Lib.hid (show errV (twoErr a.data.toList b.data.toList) = .iface 160 (.int .i64 rb) by rw [HT.out]; simp [h1, errV_ne h1])
        go_enter Tryz.func267, Tryz.ntmps267
        go_wp2
        refine wp_loop_rounds 3 ?_
        rw [rounds_succ]
        go_wp2_with fail
        refine (place_check_ok _ _ ha HRA.out).mono ?_
        rintro e w1 ⟨rfl, hb1⟩
        have c1 : w1.cell? ⟨w.heap.size, 1, none⟩ = some (.string b) := (hb1.cell (p := ⟨w.heap.size, 1, none⟩) (by simp)).trans (by simp)
        go_wp2_with fail
        rw [rounds_succ]
        go_wp2_with fail
        refine (place_check_bad _ _ rb hb HRB.out h1).mono ?_
        rintro e w2 ⟨rfl, hb2⟩
        go_wp2_with fail
        go_ret
        exact ⟨ret_eq HF.out, (past_alloc hb1 (by simp)).trans (hb2.mono (by have := (past_alloc hb1 (by simp)).size; omega))⟩
    · have HF := Lib.hid (show errV (twoErr a.data.toList b.data.toList) = .iface 160 (.int .i64 ra) by rw [HT.out]; simp [h0, errV_ne h0])
      go_enter Tryz.func267, Tryz.ntmps267
      go_wp2
      refine wp_loop_rounds 3 ?_
      rw [rounds_succ]
      go_wp2_with fail
      refine (place_check_bad _ _ ra ha HRA.out h0).mono ?_
      rintro e w1 ⟨rfl, hb1⟩
      go_wp2_with fail
      go_ret
      exact ⟨ret_eq HF.out, past_alloc hb1 (by simp)⟩
  · -- a is not empty, b is
    by_cases h0 : ra = 0
    · subst h0
      have HF := Lib.hid (errV_at HT.out)
      go_enter Tryz.func267, Tryz.ntmps267
      go_wp2
      refine wp_loop_rounds 3 ?_
      rw [rounds_succ]
      go_wp2_with fail
      refine (place_check_ok _ _ ha HRA.out).mono ?_
      rintro e w1 ⟨rfl, hb1⟩
      have c1 : w1.cell? ⟨w.heap.size, 1, none⟩ = some (.string b) := (hb1.cell (p := ⟨w.heap.size, 1, none⟩) (by simp)).trans (by simp)
      go_wp2_with fail
      rw [rounds_succ]
      go_wp2_with fail
      rw [rounds_succ]
      go_wp2_with fail
      go_ret
      exact ⟨ret_eq (by rw [HF.out]; rfl), past_alloc hb1 (by simp)⟩
    · have HF := Lib.hid (show errV (twoErr a.data.toList b.data.toList) = .iface 160 (.int .i64 ra) by rw [HT.out]; simp [h0, errV_ne h0])
      go_enter Tryz.func267, Tryz.ntmps267
      go_wp2
      refine wp_loop_rounds 3 ?_
      rw [rounds_succ]
      go_wp2_with fail
      refine (place_check_bad _ _ ra ha HRA.out h0).mono ?_
      rintro e w1 ⟨rfl, hb1⟩
      go_wp2_with fail
      go_ret
      exact ⟨ret_eq HF.out, past_alloc hb1 (by simp)⟩
  · -- a is empty, b is not
    by_cases h0 : rb = 0
    · subst h0
      have HF := Lib.hid (errV_at HT.out)
      go_enter Tryz.func267, Tryz.ntmps267
      go_wp2
      refine wp_loop_rounds 3 ?_
      rw [rounds_succ]
      go_wp2_with fail
      rw [rounds_succ]
      go_wp2_with fail
      refine (place_check_ok _ _ hb HRB.out).mono ?_
      rintro e w1 ⟨rfl, hb1⟩
      go_wp2_with fail
      rw [rounds_succ]
      go_wp2_with fail
      go_ret
      exact ⟨ret_eq (by rw [HF.out]; rfl), past_alloc hb1 (by simp)⟩
    · have HF := Lib.hid (show errV (twoErr a.data.toList b.data.toList) = .iface 160 (.int .i64 rb) by rw [HT.out]; simp [h0, errV_ne h0])
      go_enter Tryz.func267, Tryz.ntmps267
      go_wp2
      refine wp_loop_rounds 3 ?_
      rw [rounds_succ]
      go_wp2_with fail
      rw [rounds_succ]
      go_wp2_with fail
      refine (place_check_bad _ _ rb hb HRB.out h0).mono ?_
      rintro e w1 ⟨rfl, hb1⟩
      go_wp2_with fail
      go_ret
      exact ⟨ret_eq HF.out, past_alloc hb1 (by simp)⟩
  · -- both are empty
    have HF := Lib.hid (errV_at HT.out)
    go_enter Tryz.func267, Tryz.ntmps267
    go_wp2
    refine wp_loop_rounds 3 ?_
    rw [rounds_succ]
    go_wp2
    rw [rounds_succ]
    go_wp2
    rw [rounds_succ]
    go_wp2
    go_ret
    exact ⟨ret_eq (by rw [HF.out]; rfl), (Below.refl _ _).alloc (Nat.le_refl _) _⟩
theorem twoErr_az {a b : Str} (h : twoErr a b = 0) : a.all isAZ = true ∧ b.all isAZ = true ∧ a.length ≤ 12 ∧ b.length ≤ 12 := by
  have one : ∀ p : Str, placeErr p = 0 → p.length ≤ 12 := by
    intro p hp; unfold placeErr at hp
    split at hp
    · cases hp
    · omega
  unfold twoErr at h
  have ha : a = [] ∨ placeErr a = 0 := by
    rcases Classical.em (a = []) with e | e
    · exact .inl e
    · rcases Classical.em (placeErr a = 0) with f | f
      · exact .inr f
      · rw [if_pos ⟨e, f⟩] at h; exact absurd h f
  rw [if_neg (by rintro ⟨x, y⟩; rcases ha with e | e; exact x e; exact y e)] at h
  have hb : b = [] ∨ placeErr b = 0 := by
    rcases Classical.em (b = []) with e | e
    · exact .inl e
    · rcases Classical.em (placeErr b = 0) with f | f
      · exact .inr f
      · rw [if_pos ⟨e, f⟩] at h; exact absurd h f
  refine ⟨?_, ?_, ?_, ?_⟩
  · rcases ha with e | e
    · rw [e]; rfl
    · exact placeErr_az e
  · rcases hb with e | e
    · rw [e]; rfl
    · exact placeErr_az e
  · rcases ha with e | e
    · rw [e]; simp
    · exact one a e
  · rcases hb with e | e
    · rw [e]; simp
    · exact one b e
theorem quarter_to (a b s : ByteArray) (w : World) (ha' : a.size ≤ 12) (hb' : b.size ≤ 12) (ha : a.data.toList.all isAZ = true) (hb : b.data.toList.all isAZ = true) (hs : s = ⟨(orEmpty (quarter a.data.toList b.data.toList)).toArray⟩) :
    Calls Tryz.prog 268 #[.string a, .string b] w fun e w' => e = .returned (.string s) ∧ Below w.heap.size w w' := by
  subst hs; exact quarter_is a b w ha' hb' ha hb
theorem ready_ok (a b : ByteArray) (w : World) (ha : a.size ≤ 9223372036854775807) (hb : b.size ≤ 9223372036854775807) (h : twoErr a.data.toList b.data.toList = 0) :
    Calls Tryz.prog 267 #[.string a, .string b] w fun e w' => e = .returned .nilIface ∧ Below w.heap.size w w' := by
  have := ready_is a b w ha hb
  rw [h] at this; exact this
set_option maxRecDepth 100000 in
set_option maxHeartbeats 2000000 in
theorem between_no (a b : ByteArray) (who : Int) (w : World) (h1 : 1 ≤ who) (h8 : who ≤ 8) (h : twoErr a.data.toList b.data.toList = 0) (hq : quarter a.data.toList b.data.toList = none) :
    Calls Tryz.prog 219 #[.string a, .string b, .int .i64 who] w fun e w' => e = .returned (.tuple #[.string ⟨#[]⟩, .iface 160 (.int .i64 8)]) ∧ Below w.heap.size w w' := by
  obtain ⟨az1, az2, l1, l2⟩ := twoErr_az h
  have s1 : a.size ≤ 12 := by simpa using l1
  have s2 : b.size ≤ 12 := by simpa using l2
  have H := Lib.hid h
  have HQ := Lib.hid hq
  have HA := Lib.hid az1
  have HB := Lib.hid az2
  clear h hq az1 az2 l1 l2
  go_enter Tryz.func219, Tryz.ntmps219
  go_wp2_with fail
  refine (author_is who _ true (by simp; omega)).mono ?_
  rintro e w' ⟨rfl, rfl⟩
  go_wp2_with fail
  refine (ready_ok a b _ (by omega) (by omega) H.out).mono ?_
  rintro e w1 ⟨rfl, hb1⟩
  go_wp2_with fail
  refine (quarter_to a b ⟨#[]⟩ _ s1 s2 HA.out HB.out (by rw [HQ.out]; rfl)).mono ?_
  rintro e w2 ⟨rfl, hb2⟩
  go_wp2_with fail
  go_ret2
  exact ⟨rfl, hb1.trans (hb2.mono hb1.size)⟩
set_option maxRecDepth 100000 in
set_option maxHeartbeats 2000000 in
theorem between_yes (a b : ByteArray) (who : Int) (p : Str) (w : World) (h1 : 1 ≤ who) (h8 : who ≤ 8) (h : twoErr a.data.toList b.data.toList = 0) (hp : between a.data.toList b.data.toList who.toNat = some p) :
    Calls Tryz.prog 219 #[.string a, .string b, .int .i64 who] w fun e w' => e = .returned (.tuple #[.string ⟨p.toArray⟩, .nilIface]) ∧ Below w.heap.size w w' := by
  obtain ⟨az1, az2, l1, l2⟩ := twoErr_az h
  have s1 : a.size ≤ 12 := by simpa using l1
  have s2 : b.size ≤ 12 := by simpa using l2
  obtain ⟨m, hq, hpm⟩ : ∃ m, quarter a.data.toList b.data.toList = some m ∧ p = m ++ [whoByte who.toNat] := by
    unfold between at hp
    cases hq : quarter a.data.toList b.data.toList with
    | none => rw [hq] at hp; cases hp
    | some m => rw [hq] at hp; simp at hp; exact ⟨m, rfl, hp.symm⟩
  obtain ⟨n, hn1, hn2, P⟩ := quarter_some az2 hq
  have hl := P.len
  have hne : (⟨m.toArray⟩ : ByteArray).toList.isEmpty = false := by
    rw [ByteArray.toList_mk]; cases m with
    | nil => simp at hl; omega
    | cons _ _ => rfl
  have hsz : (⟨m.toArray⟩ : ByteArray).size ≤ 11 := by rw [size_of_str]; omega
  have hcv := conv_one (P := Tryz.prog) 163 9 5 Tryz.underlying163 Tryz.underlying5 Tryz.underlying9 (whoByte who.toNat) (97 + who) (by rw [whoByte_toNat (by omega)]; omega)
  obtain ⟨ms, hms⟩ : ∃ ms : ByteArray, ms = ⟨m.toArray⟩ := ⟨_, rfl⟩
  have hfin : Value.string ⟨p.toArray⟩ = .string (ms ++ ⟨[whoByte who.toNat].toArray⟩) := by
    rw [hpm, hms]; congr 1
  rw [← hms] at hne hsz
  have H := Lib.hid h
  have HQ := Lib.hid (hq)
  have HA := Lib.hid az1
  have HB := Lib.hid az2
  have HM := Lib.hid hms
  have HF := Lib.hid hfin
  clear h hq az1 az2 l1 l2 hms hfin hpm hp P hl
  go_enter Tryz.func219, Tryz.ntmps219
  go_wp2_with fail
  refine (author_is who _ true (by simp; omega)).mono ?_
  rintro e w' ⟨rfl, rfl⟩
  go_wp2_with fail
  refine (ready_ok a b _ (by omega) (by omega) H.out).mono ?_
  rintro e w1 ⟨rfl, hb1⟩
  go_wp2_with fail
  refine (quarter_to a b ms _ s1 s2 HA.out HB.out (by rw [HQ.out]; exact HM.out)).mono ?_
  rintro e w2 ⟨rfl, hb2⟩
  go_wp2_with fail
  go_ret2
  exact ⟨tup_eq HF.out rfl, hb1.trans ((hb2.alloc hb2.size _).mono hb1.size)⟩
end Go.Proofs.YtlbnafnbjgageaaGreatDoor
