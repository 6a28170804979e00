/- The plain model of the program: places, dots, books, marks, docs; between is between; what there is hangs on the set of ops alone. No program in sight. -/
namespace Go.Proofs.YtlbnafnbjgageaaGreatDoor
abbrev Str := List UInt8
def isAZ (c : UInt8) : Bool := 97 ≤ c && c ≤ 122
def dig (c : UInt8) : Nat := c.toNat - 97
def num : Str → Nat → Nat
  | _, 0 => 0
  | [], _ + 1 => 0
  | c :: s, n + 1 => dig c * 26 ^ n + num s n
theorem num_cons (c : UInt8) (s : Str) (n : Nat) : num (c :: s) (n + 1) = dig c * 26 ^ n + num s n := rfl
/-- letters of a number, n of them. -/
def letters : Nat → Nat → Str
  | _, 0 => []
  | x, n + 1 => letters (x / 26) n ++ [UInt8.ofNat (97 + x % 26)]
theorem letters_len : ∀ (n x : Nat), (letters x n).length = n
  | 0, _ => rfl
  | n + 1, x => by simp [letters, letters_len n]
theorem az_digit (r : Nat) (h : r < 26) : isAZ (UInt8.ofNat (97 + r)) = true ∧ dig (UInt8.ofNat (97 + r)) = r := by
  have : (UInt8.ofNat (97 + r)).toNat = 97 + r := by simp [UInt8.toNat_ofNat']; omega
  simp [isAZ, UInt8.le_iff_toNat_le, dig]; omega
theorem letters_az : ∀ (n x : Nat), (letters x n).all isAZ = true
  | 0, _ => rfl
  | n + 1, x => by
    simp only [letters, List.all_append, letters_az n, Bool.true_and, List.all_cons, List.all_nil, Bool.and_true]
    exact (az_digit _ (Nat.mod_lt _ (by omega))).1
theorem num_append : ∀ (s t : Str) (m : Nat), num (s ++ t) (s.length + m) = num s s.length * 26 ^ m + num t m
  | [], t, m => by simp [num]
  | c :: s, t, m => by
    have ih := num_append s t m
    have e : s.length + 1 + m = s.length + m + 1 := by omega
    rw [List.cons_append, List.length_cons, e, num_cons, num_cons, ih, Nat.add_mul, Nat.pow_add, Nat.mul_assoc, Nat.add_assoc]
theorem num_letters : ∀ (n x : Nat), x < 26 ^ n → num (letters x n) n = x
  | 0, x, h => by simp at h; subst h; rfl
  | n + 1, x, h => by
    have h1 : x / 26 < 26 ^ n := by
      rw [Nat.pow_succ] at h; exact Nat.div_lt_of_lt_mul (by omega)
    have ih := num_letters n (x / 26) h1
    have := num_append (letters (x / 26) n) [UInt8.ofNat (97 + x % 26)] 1
    rw [letters_len] at this
    simp only [letters, this, ih, num, Nat.pow_one, Nat.pow_zero, Nat.mul_one, Nat.add_zero]
    rw [(az_digit _ (Nat.mod_lt _ (by omega))).2]; omega
/-- how many numbers from 1 to n are no multiples of 26. -/
def upTo (n : Nat) : Nat := n - n / 26
theorem upTo_mono {a b : Nat} (h : a ≤ b) : upTo a ≤ upTo b := by unfold upTo; omega
/-- the k-th (from 0) number from 1 on that is no multiple of 26. -/
def kth (k : Nat) : Nat := k + k / 25 + 1
theorem kth_mod (k : Nat) : kth k % 26 ≠ 0 := by unfold kth; omega
theorem upTo_kth (k : Nat) : upTo (kth k) = k + 1 := by unfold upTo kth; omega
theorem kth_lo {a k : Nat} (h : upTo a ≤ k) : a < kth k := by
  rcases Nat.lt_or_ge a (kth k) with g | g
  · exact g
  · have := upTo_mono g; rw [upTo_kth] at this; omega
theorem kth_hi {b k : Nat} (h : k < upTo b) : kth k ≤ b := by
  rcases Nat.lt_or_ge b (kth k) with g | g
  · exfalso; unfold upTo at h; unfold kth at g; omega
  · exact g

theorem num_lt : ∀ (n : Nat) (s : Str), s.all isAZ = true → num s n < 26 ^ n
  | 0, s, _ => by simp [num]
  | n + 1, [], _ => by simp [num]; exact Nat.pow_pos (by omega)
  | n + 1, c :: s, h => by
    simp only [List.all_cons, Bool.and_eq_true] at h
    have h1 := num_lt n s h.2
    have h2 : dig c < 26 := by have := h.1; simp [isAZ, UInt8.le_iff_toNat_le] at this; unfold dig; omega
    have : dig c * 26 ^ n ≤ 25 * 26 ^ n := Nat.mul_le_mul_right _ (by omega)
    rw [num_cons, Nat.pow_succ]; omega
theorem dig_inj {c d : UInt8} (h : isAZ c = true) (k : isAZ d = true) (e : dig c = dig d) : c = d := by
  simp [isAZ, UInt8.le_iff_toNat_le] at h k; unfold dig at e
  exact UInt8.toNat_inj.1 (by omega)
theorem lt_of_num : ∀ (n : Nat) (s t : Str), s.all isAZ = true → t.all isAZ = true → num s n < num t n → s < t
  | 0, s, t, _, _, h => by simp [num] at h
  | n + 1, s, [], _, _, h => by simp [num] at h
  | n + 1, [], d :: t, _, _, _ => by simp
  | n + 1, c :: s, d :: t, hs, ht, h => by
    simp only [List.all_cons, Bool.and_eq_true] at hs ht
    have h1 := num_lt n s hs.2
    have h2 := num_lt n t ht.2
    rw [num_cons, num_cons] at h
    rw [List.cons_lt_cons_iff]
    by_cases e : dig c = dig d
    · right
      refine ⟨dig_inj hs.1 ht.1 e, lt_of_num n s t hs.2 ht.2 ?_⟩
      rw [e] at h; omega
    · left
      have hcd : dig c < dig d := by
        rcases Nat.lt_or_ge (dig c) (dig d) with k | k
        · exact k
        · exfalso
          have : (dig d + 1) * 26 ^ n ≤ dig c * 26 ^ n := Nat.mul_le_mul_right _ (by omega)
          rw [Nat.add_mul] at this; omega
      rw [UInt8.lt_iff_toNat_lt]; unfold dig at hcd
      have := hs.1; have := ht.1
      simp [isAZ, UInt8.le_iff_toNat_le] at this
      omega
/-- what is wrong with a place. -/
def placeErr (p : Str) : Int :=
  if 12 < p.length then 4
  else if !p.all isAZ then 2
  else if p.length < 2 ∨ (p.getD (p.length - 1) 0).toNat < 98 ∨ 105 < (p.getD (p.length - 1) 0).toNat ∨ (p.getD (p.length - 2) 0).toNat = 97 then 2
  else 0
/-- one past the highest number that may be. -/
def over (b : Str) (n : Nat) : Nat := if b = [] then 26 ^ n else num b n
def pickAt (a b : Str) (n : Nat) : Option Str :=
  if over b n ≤ num a n then none
  else if upTo (over b n - 1) ≤ upTo (num a n) then none
  else some (letters (kth (upTo (num a n) + (upTo (over b n - 1) - upTo (num a n) - 1) / 4)) n)
def quarter (a b : Str) : Option Str := (List.range' 1 11).findSome? (pickAt a b)
def twoErr (a b : Str) : Int :=
  if a ≠ [] ∧ placeErr a ≠ 0 then placeErr a
  else if b ≠ [] ∧ placeErr b ≠ 0 then placeErr b
  else if a ≠ [] ∧ b ≠ [] ∧ ¬ a < b then 3 else 0
def whoByte (who : Nat) : UInt8 := UInt8.ofNat (97 + who)
theorem placeErr_az {p : Str} (h : placeErr p = 0) : p.all isAZ = true := by
  unfold placeErr at h
  split at h
  · cases h
  · split at h
    · cases h
    · simp_all
theorem over_le (b : Str) (n : Nat) (hb : b.all isAZ = true) : over b n ≤ 26 ^ n := by
  unfold over; split
  · exact Nat.le_refl _
  · exact Nat.le_of_lt (num_lt n b hb)
structure Picked (a b m : Str) (n : Nat) : Prop where
  len : m.length = n
  az : m.all isAZ = true
  lo : num a n < num m n
  hi : num m n < over b n
  last : num m n % 26 ≠ 0
theorem pickAt_some {a b m : Str} {n : Nat} (hb : b.all isAZ = true) (h : pickAt a b n = some m) : Picked a b m n := by
  unfold pickAt at h
  split at h
  · cases h
  · split at h
    · cases h
    · rename_i h1 h2
      cases h
      have hk : upTo (num a n) ≤ upTo (num a n) + (upTo (over b n - 1) - upTo (num a n) - 1) / 4 := by omega
      have hk' : upTo (num a n) + (upTo (over b n - 1) - upTo (num a n) - 1) / 4 < upTo (over b n - 1) := by omega
      generalize upTo (num a n) + (upTo (over b n - 1) - upTo (num a n) - 1) / 4 = k at hk hk'
      have l1 := kth_lo hk
      have l2 := kth_hi hk'
      have o := over_le b n hb
      have e := num_letters n (kth k) (by omega)
      exact ⟨letters_len _ _, letters_az _ _, by rw [e]; exact l1, by rw [e]; omega, by rw [e]; exact kth_mod k⟩
theorem num_take (n : Nat) : ∀ (s t : Str), s.length = n → num (s ++ t) n = num s n := by
  intro s t h
  have := num_append s t 0
  simp [num] at this
  subst h; simpa using this

structure Dot where
  who : Int
  n : Int
  deriving DecidableEq, Inhabited
structure Leaf where
  place : Str
  letter : Int
  struck : Bool
  deriving DecidableEq, Inhabited
structure Mark where
  place : Str
  dot : Dot
  deriving DecidableEq, Inhabited
structure Op where
  dot : Dot
  what : Int
  place : Str
  letter : Int
  seen : List Dot
  deriving DecidableEq, Inhabited
def dotErr (d : Dot) : Int := if d.who < 1 ∨ 8 < d.who ∨ d.n < 1 ∨ 9999 < d.n then 1 else 0
def dotLess (a b : Dot) : Bool := decide (a.who < b.who) || (a.who == b.who && decide (a.n < b.n))
/-- the first fault of dots one by one. -/
def firstErr {α : Type} (f : α → Int) : List α → Int
  | [] => 0
  | x :: l => if f x = 0 then firstErr f l else f x
/-- does a relation hold of each and the next one? -/
def steps {α : Type} (r : α → α → Bool) : List α → Bool
  | [] => true
  | [_] => true
  | x :: y :: l => r x y && steps r (y :: l)
def riseErr (l : List Dot) : Int := if firstErr dotErr l ≠ 0 then firstErr dotErr l else if steps dotLess l then 0 else 7
def vecErr (v : List Int) : Int := if v.length ≠ 8 then 3 else if v.any (fun n => decide (n < 0) || decide (9999 < n)) then 1 else 0
def letterOK (n : Int) : Bool := decide (32 ≤ n) && decide (n ≤ 126)
def opErr (o : Op) : Int :=
  if dotErr o.dot ≠ 0 then dotErr o.dot
  else if o.what < 1 ∨ 4 < o.what then 1
  else if placeErr o.place ≠ 0 then placeErr o.place
  else if o.what = 1 ∧ letterOK o.letter = false then 1
  else if o.what ≠ 1 ∧ o.letter ≠ 0 then 3
  else if o.what ≠ 4 ∧ o.seen ≠ [] then 3
  else if 40 < o.seen.length then 4
  else riseErr o.seen
/-- what is wrong with a leaf behind another one. -/
def leafErr (x : Leaf) : Int :=
  if placeErr x.place ≠ 0 then placeErr x.place
  else if x.letter ≠ 0 ∧ letterOK x.letter = false then 1
  else if x.letter = 0 ∧ x.struck = false then 3 else 0
/-- the first fault of rows of which each has faults of its own, and must stand behind the one ahead. -/
def rowErr {α : Type} (f : α → Int) (r : α → α → Bool) : List α → Int
  | [] => 0
  | x :: l => if f x ≠ 0 then f x else go x l
where
  go (p : α) : List α → Int
    | [] => 0
    | x :: l => if f x ≠ 0 then f x else if r p x then go x l else 7
def leafLess (a b : Leaf) : Bool := decide (a.place < b.place)
def markLess (a b : Mark) : Bool := decide (a.place < b.place) || (a.place == b.place && dotLess a.dot b.dot)
def bookErr (l : List Leaf) : Int := if 300 < l.length then 4 else rowErr leafErr leafLess l
def markErr (m : Mark) : Int := if placeErr m.place ≠ 0 then placeErr m.place else dotErr m.dot
def marksErr (l : List Mark) : Int := if 40 < l.length then 4 else rowErr markErr markLess l
def seen (x : Leaf) : Bool := x.letter != 0 && !x.struck
/-- the letters that are seen. -/
def textOf (l : List Leaf) : Str := (l.filter seen).map fun x => UInt8.ofInt x.letter
/-- where the n-th leaf that is seen stands. -/
def nth : List Leaf → Nat → Option Nat
  | [], _ => none
  | x :: l, n => if seen x then (if n = 0 then some 0 else (nth l (n - 1)).map (· + 1)) else (nth l n).map (· + 1)
/-- how many leafs stand ahead of a place. -/
def ahead (l : List Leaf) (p : Str) : Nat := (l.takeWhile fun x => decide (x.place < p)).length
def hasAt (l : List Leaf) (p : Str) : Bool := (l[ahead l p]?.map (·.place)) == some p
/-- the leaf x at its place, in the row's order: in the place of the one that is there, or between. -/
def setLeaf (l : List Leaf) (x : Leaf) : List Leaf :=
  let i := ahead l x.place
  if hasAt l x.place then l.set i x else l.take i ++ x :: l.drop i
def write (l : List Leaf) (p : Str) (c : Int) : Except Int (List Leaf) :=
  if letterOK c = false then .error 1
  else if hasAt l p then
    let x := l.getD (ahead l p) default
    if x.letter ≠ 0 ∧ x.letter ≠ c then .error 7 else .ok (setLeaf l { x with letter := c })
  else if 300 ≤ l.length then .error 4
  else .ok (setLeaf l { place := p, letter := c, struck := false })
def strike (l : List Leaf) (p : Str) : Except Int (List Leaf) :=
  if hasAt l p then
    let x := l.getD (ahead l p) default
    .ok (setLeaf l { x with struck := true })
  else if 300 ≤ l.length then .error 4
  else .ok (setLeaf l { place := p, letter := 0, struck := true })
def cutMark (l : List Mark) (m : Mark) : Except Int (List Mark) :=
  if m ∈ l then .ok l
  else if 40 ≤ l.length then .error 4
  else .ok ((l.takeWhile (markLess · m)) ++ m :: l.dropWhile (markLess · m))
def without (l : List Mark) (p : Str) (s : List Dot) : List Mark := l.filter fun m => !(m.place == p && s.contains m.dot)
structure Doc where
  book : List Leaf
  marks : List Mark
  known : List Int
  ops : List Op
  deriving DecidableEq, Inhabited
def new : Doc := { book := [], marks := [], known := List.replicate 8 0, ops := [] }
/-- has a join that is known seen the cut x at p? -/
def joined (l : List Op) (p : Str) (x : Dot) : Bool := l.any fun o => o.what == 4 && o.place == p && o.seen.contains x
def turn (d : Doc) (o : Op) : Except Int (List Leaf × List Mark) :=
  if o.what = 1 then (write d.book o.place o.letter).map (·, d.marks)
  else if o.what = 2 then (strike d.book o.place).map (·, d.marks)
  else if o.what = 3 then (if joined d.ops o.place o.dot then .ok (d.book, d.marks) else (cutMark d.marks { place := o.place, dot := o.dot }).map (d.book, ·))
  else .ok (d.book, without d.marks o.place o.seen)
def knownOf (d : Doc) (who : Int) : Int := d.known.getD (who - 1).toNat 0
/-- an op is applied: was it new? the fault; what there is. -/
def apply (d : Doc) (o : Op) : Bool × Int × Doc :=
  if opErr o ≠ 0 then (false, opErr o, d)
  else if o.dot.n ≤ knownOf d o.dot.who then (false, 0, d)
  else if knownOf d o.dot.who < o.dot.n - 1 then (false, 6, d)
  else if 400 ≤ d.ops.length then (false, 4, d)
  else match turn d o with
    | .error e => (false, e, d)
    | .ok (b, m) => (true, 0, { book := b, marks := m, known := d.known.set (o.dot.who - 1).toNat o.dot.n, ops := d.ops ++ [o] })
/-- ops one behind the other, up to the first fault. -/
def doAll (d : Doc) : List Op → Int × Doc
  | [] => (0, d)
  | o :: l => if (apply d o).2.1 ≠ 0 then ((apply d o).2.1, (apply d o).2.2) else doAll (apply d o).2.2 l
/-- ops one behind the other, whatever is refused. -/
def plays (d : Doc) (l : List Op) : Doc := l.foldl (fun d o => (apply d o).2.2) d

def between (a b : Str) (who : Nat) : Option Str := (quarter a b).map (· ++ [whoByte who])
theorem quarter_some {a b m : Str} (hb : b.all isAZ = true) (h : quarter a b = some m) : ∃ n, 1 ≤ n ∧ n ≤ 11 ∧ Picked a b m n := by
  unfold quarter at h
  obtain ⟨n, hn, hp⟩ := List.exists_of_findSome?_eq_some h
  exact ⟨n, by simp at hn; omega, by simp at hn; omega, pickAt_some hb hp⟩
theorem whoByte_toNat {who : Nat} (h : who ≤ 8) : (whoByte who).toNat = 97 + who := by
  unfold whoByte; simp [UInt8.toNat_ofNat']; omega
theorem num_last : ∀ (n : Nat) (m : Str), m.length = n + 1 → m.all isAZ = true → num m (n + 1) % 26 = dig (m.getD n 0)
  | 0, [c], _, h => by
    simp only [List.all_cons, Bool.and_eq_true] at h
    have : dig c < 26 := by have := h.1; simp [isAZ, UInt8.le_iff_toNat_le] at this; unfold dig; omega
    simp [num]; omega
  | n + 1, c :: m, hl, h => by
    simp only [List.all_cons, Bool.and_eq_true] at h
    have ih := num_last n m (by simpa using hl) h.2
    rw [num_cons, Nat.pow_succ, ← Nat.mul_assoc, Nat.mul_add_mod_self_right, ih]; simp
  | _ + 1, [], hl, _ => by simp at hl
  | 0, [], hl, _ => by simp at hl
  | 0, _ :: _ :: _, hl, _ => by simp at hl
structure Betw (a b p : Str) (who : Nat) : Prop where
  ok : placeErr p = 0
  lo : a < p
  hi : b = [] ∨ p < b
  last : p.getD (p.length - 1) 0 = whoByte who
theorem between_ok {a b p : Str} {who : Nat} (ha : a.all isAZ = true) (hb : b.all isAZ = true) (h1 : 1 ≤ who) (h8 : who ≤ 8) (h : between a b who = some p) : Betw a b p who := by
  unfold between at h
  cases hq : quarter a b with
  | none => rw [hq] at h; cases h
  | some m =>
    rw [hq] at h; simp at h; subst h
    obtain ⟨n, hn1, hn2, P⟩ := quarter_some hb hq
    have hw := whoByte_toNat h8
    have hwaz : isAZ (whoByte who) = true := by simp [isAZ, UInt8.le_iff_toNat_le, hw]; omega
    have haz : (m ++ [whoByte who]).all isAZ = true := by simp [P.az, hwaz]
    have hl := P.len
    obtain ⟨k, rfl⟩ : ∃ k, n = k + 1 := ⟨n - 1, by omega⟩
    have hlast := num_last k m hl P.az
    have hne : m.getD k 0 ≠ 97 := by
      intro e
      have := P.last; rw [hlast, e] at this; exact this rfl
    have hnum : num (m ++ [whoByte who]) (k + 1) = num m (k + 1) := num_take _ _ _ hl
    refine ⟨?_, lt_of_num (k + 1) a _ ha haz (by rw [hnum]; exact P.lo), ?_, ?_⟩
    · unfold placeErr
      have e1 : (m ++ [whoByte who]).length = k + 2 := by simp [hl]
      rw [if_neg (by omega), haz, e1]
      have e2 : (m ++ [whoByte who]).getD (k + 2 - 1) 0 = whoByte who := by
        simp [List.getD_eq_getElem?_getD, hl]
      have e3 : (m ++ [whoByte who]).getD (k + 2 - 2) 0 = m.getD k 0 := by
        simp [List.getD_eq_getElem?_getD, List.getElem?_append, hl]
      rw [e2, e3, hw]
      have : (m.getD k 0).toNat ≠ 97 := fun e => hne (UInt8.toNat_inj.1 (by rw [e]; rfl))
      simp only [Bool.not_true, if_false, Bool.false_eq_true]
      rw [if_neg (by omega)]
    · by_cases hbn : b = []
      · exact .inl hbn
      · right
        refine lt_of_num (k + 1) _ b haz hb ?_
        rw [hnum]
        have := P.hi; unfold over at this; rw [if_neg hbn] at this; exact this
    · simp [List.getD_eq_getElem?_getD]

/-- a leaf put into a row. -/
def put : List Leaf → Leaf → List Leaf
  | [], x => [x]
  | y :: l, x => if y.place < x.place then y :: put l x else if y.place = x.place then x :: l else x :: y :: l
theorem setLeaf_put (l : List Leaf) (x : Leaf) : setLeaf l x = put l x := by
  induction l with
  | nil => rfl
  | cons y l ih =>
    by_cases h : y.place < x.place
    · have e : ahead (y :: l) x.place = ahead l x.place + 1 := by simp [ahead, h]
      simp only [put, if_pos h, ← ih, setLeaf, e]
      have e2 : hasAt (y :: l) x.place = hasAt l x.place := by simp [hasAt, e]
      rw [e2]; split <;> simp
    · have e : ahead (y :: l) x.place = 0 := by simp [ahead, h]
      simp only [put, if_neg h, setLeaf, e, hasAt]
      by_cases k : y.place = x.place <;> simp [k]
def Sorted (l : List Leaf) : Prop := l.Pairwise fun a b => a.place < b.place
theorem str_irrefl (a : Str) : ¬ a < a := List.lt_irrefl a
theorem str_trans {a b c : Str} (h : a < b) (k : b < c) : a < c := List.lt_trans h k
theorem str_cases (a b : Str) : a < b ∨ a = b ∨ b < a := by
  rcases Classical.em (a < b) with h | h
  · exact .inl h
  · rcases Classical.em (b < a) with k | k
    · exact .inr (.inr k)
    · exact .inr (.inl (List.le_antisymm (List.not_lt.1 k) (List.not_lt.1 h)))
theorem mem_put (l : List Leaf) (x y : Leaf) (hs : Sorted l) : y ∈ put l x ↔ y = x ∨ (y ∈ l ∧ y.place ≠ x.place) := by
  induction l with
  | nil => simp [put]
  | cons z l ih =>
    obtain ⟨h1, h2⟩ := List.pairwise_cons.1 hs
    simp only [put]
    split
    · rename_i h
      rw [List.mem_cons, ih h2, List.mem_cons]
      constructor
      · rintro (rfl | rfl | ⟨a, b⟩)
        · exact .inr ⟨.inl rfl, fun e => by rw [e] at h; exact str_irrefl _ h⟩
        · exact .inl rfl
        · exact .inr ⟨.inr a, b⟩
      · rintro (rfl | ⟨rfl | a, b⟩)
        · exact .inr (.inl rfl)
        · exact .inl rfl
        · exact .inr (.inr ⟨a, b⟩)
    · rename_i h
      split
      · rename_i k
        rw [List.mem_cons, List.mem_cons]
        constructor
        · rintro (rfl | a)
          · exact .inl rfl
          · exact .inr ⟨.inr a, fun e => by have := h1 y a; rw [e, k] at this; exact str_irrefl _ this⟩
        · rintro (rfl | ⟨rfl | a, b⟩)
          · exact .inl rfl
          · exact absurd k b
          · exact .inr a
      · rename_i k
        have hx : x.place < z.place := by
          rcases str_cases z.place x.place with a | a | a
          · exact absurd a h
          · exact absurd a k
          · exact a
        rw [List.mem_cons, List.mem_cons]
        constructor
        · rintro (rfl | rfl | a)
          · exact .inl rfl
          · exact .inr ⟨.inl rfl, k⟩
          · exact .inr ⟨.inr a, fun e => by have := str_trans hx (h1 y a); rw [e] at this; exact str_irrefl _ this⟩
        · rintro (rfl | ⟨a, b⟩)
          · exact .inl rfl
          · exact .inr a
theorem sorted_put (l : List Leaf) (x : Leaf) (hs : Sorted l) : Sorted (put l x) := by
  induction l with
  | nil => simp [put, Sorted]
  | cons z l ih =>
    obtain ⟨h1, h2⟩ := List.pairwise_cons.1 hs
    simp only [put]
    split
    · rename_i h
      refine List.pairwise_cons.2 ⟨fun y hy => ?_, ih h2⟩
      rcases (mem_put l x y h2).1 hy with rfl | ⟨a, _⟩
      · exact h
      · exact h1 y a
    · rename_i h
      split
      · rename_i k
        exact List.pairwise_cons.2 ⟨fun y hy => by rw [← k]; exact h1 y hy, h2⟩
      · rename_i k
        have hx : x.place < z.place := by
          rcases str_cases z.place x.place with a | a | a
          · exact absurd a h
          · exact absurd a k
          · exact a
        refine List.pairwise_cons.2 ⟨fun y hy => ?_, hs⟩
        rcases List.mem_cons.1 hy with rfl | a
        · exact hx
        · exact str_trans hx (h1 y a)
theorem sorted_ext {l k : List Leaf} (hl : Sorted l) (hk : Sorted k) (h : ∀ x, x ∈ l ↔ x ∈ k) : l = k := by
  induction l generalizing k with
  | nil =>
    cases k with
    | nil => rfl
    | cons y k => exact absurd ((h y).2 (by simp)) (by simp)
  | cons x l ih =>
    cases k with
    | nil => exact absurd ((h x).1 (by simp)) (by simp)
    | cons y k =>
      obtain ⟨a1, a2⟩ := List.pairwise_cons.1 hl
      obtain ⟨b1, b2⟩ := List.pairwise_cons.1 hk
      have e : x = y := by
        rcases List.mem_cons.1 ((h x).1 (by simp)) with e | e
        · exact e
        · rcases List.mem_cons.1 ((h y).2 (by simp)) with f | f
          · exact f.symm
          · exact absurd (str_trans (a1 y f) (b1 x e)) (str_irrefl _)
      subst e
      congr 1
      refine ih a2 b2 fun z => ?_
      constructor
      · intro hz
        rcases List.mem_cons.1 ((h z).1 (by simp [hz])) with e | e
        · subst e; exact absurd (a1 z hz) (str_irrefl _)
        · exact e
      · intro hz
        rcases List.mem_cons.1 ((h z).2 (by simp [hz])) with e | e
        · subst e; exact absurd (b1 z hz) (str_irrefl _)
        · exact e

/-! marks, put into their row -/
def putMark : List Mark → Mark → List Mark
  | [], x => [x]
  | y :: l, x => if markLess y x then y :: putMark l x else x :: y :: l
theorem cutMark_put {l : List Mark} {m : Mark} {l' : List Mark} (h : cutMark l m = .ok l') : l' = if m ∈ l then l else putMark l m := by
  unfold cutMark at h
  split at h
  · rename_i k; cases h; rw [if_pos k]
  · rename_i k
    split at h
    · cases h
    · cases h
      rw [if_neg k]
      clear k
      induction l with
      | nil => rfl
      | cons y l ih =>
        by_cases a : markLess y m = true
        · rw [List.takeWhile_cons_of_pos (p := (markLess · m)) a, List.dropWhile_cons_of_pos (p := (markLess · m)) a, List.cons_append, ih (by simp at *; omega)]
          simp [putMark, a]
        · simp [putMark, a]
def dotLt (a b : Dot) : Prop := dotLess a b = true
theorem dotLess_iff (a b : Dot) : dotLess a b = true ↔ a.who < b.who ∨ (a.who = b.who ∧ a.n < b.n) := by simp [dotLess]
theorem markLess_iff (a b : Mark) : markLess a b = true ↔ a.place < b.place ∨ (a.place = b.place ∧ dotLess a.dot b.dot = true) := by simp [markLess]
theorem dot_irrefl (a : Dot) : ¬ dotLess a a = true := by rw [dotLess_iff]; omega
theorem dot_trans {a b c : Dot} (h : dotLess a b = true) (k : dotLess b c = true) : dotLess a c = true := by rw [dotLess_iff] at *; omega
theorem dot_cases (a b : Dot) : dotLess a b = true ∨ a = b ∨ dotLess b a = true := by
  rw [dotLess_iff, dotLess_iff]
  cases a; cases b; simp only [Dot.mk.injEq]; omega
theorem mark_irrefl (a : Mark) : ¬ markLess a a = true := by
  rw [markLess_iff]; rintro (h | ⟨_, h⟩)
  · exact str_irrefl _ h
  · exact dot_irrefl _ h
theorem mark_trans {a b c : Mark} (h : markLess a b = true) (k : markLess b c = true) : markLess a c = true := by
  rw [markLess_iff] at *
  rcases h with h | ⟨h, h'⟩ <;> rcases k with k | ⟨k, k'⟩
  · exact .inl (str_trans h k)
  · exact .inl (k ▸ h)
  · exact .inl (h ▸ k)
  · exact .inr ⟨h.trans k, dot_trans h' k'⟩
theorem mark_cases (a b : Mark) : markLess a b = true ∨ a = b ∨ markLess b a = true := by
  rw [markLess_iff, markLess_iff]
  rcases str_cases a.place b.place with h | h | h
  · exact .inl (.inl h)
  · rcases dot_cases a.dot b.dot with k | k | k
    · exact .inl (.inr ⟨h, k⟩)
    · exact .inr (.inl (by cases a; cases b; simp_all))
    · exact .inr (.inr (.inr ⟨h.symm, k⟩))
  · exact .inr (.inr (.inl h))
def SortedM (l : List Mark) : Prop := l.Pairwise fun a b => markLess a b = true
theorem mem_putMark (l : List Mark) (x y : Mark) : y ∈ putMark l x ↔ y = x ∨ y ∈ l := by
  induction l with
  | nil => simp [putMark]
  | cons z l ih =>
    simp only [putMark]
    split
    · rw [List.mem_cons, ih, List.mem_cons]
      constructor
      · rintro (a | a | a)
        · exact .inr (.inl a)
        · exact .inl a
        · exact .inr (.inr a)
      · rintro (a | a | a)
        · exact .inr (.inl a)
        · exact .inl a
        · exact .inr (.inr a)
    · rw [List.mem_cons]
theorem sorted_putMark (l : List Mark) (x : Mark) (hs : SortedM l) (hx : x ∉ l) : SortedM (putMark l x) := by
  induction l with
  | nil => simp [putMark, SortedM]
  | cons z l ih =>
    obtain ⟨h1, h2⟩ := List.pairwise_cons.1 hs
    simp only [putMark]
    split
    · rename_i h
      refine List.pairwise_cons.2 ⟨fun y hy => ?_, ih h2 (fun a => hx (by simp [a]))⟩
      rcases (mem_putMark l x y).1 hy with rfl | a
      · exact h
      · exact h1 y a
    · rename_i h
      have hxz : markLess x z = true := by
        rcases mark_cases z x with a | a | a
        · exact absurd a h
        · exact absurd (by simp [a]) hx
        · exact a
      refine List.pairwise_cons.2 ⟨fun y hy => ?_, hs⟩
      rcases List.mem_cons.1 hy with rfl | a
      · exact hxz
      · exact mark_trans hxz (h1 y a)
theorem sortedM_ext {l k : List Mark} (hl : SortedM l) (hk : SortedM k) (h : ∀ x, x ∈ l ↔ x ∈ k) : l = k := by
  induction l generalizing k with
  | nil =>
    cases k with
    | nil => rfl
    | cons y k => exact absurd ((h y).2 (by simp)) (by simp)
  | cons x l ih =>
    cases k with
    | nil => exact absurd ((h x).1 (by simp)) (by simp)
    | cons y k =>
      obtain ⟨a1, a2⟩ := List.pairwise_cons.1 hl
      obtain ⟨b1, b2⟩ := List.pairwise_cons.1 hk
      have e : x = y := by
        rcases List.mem_cons.1 ((h x).1 (by simp)) with e | e
        · exact e
        · rcases List.mem_cons.1 ((h y).2 (by simp)) with f | f
          · exact f.symm
          · exact absurd (mark_trans (a1 y f) (b1 x e)) (mark_irrefl _)
      subst e
      congr 1
      refine ih a2 b2 fun z => ?_
      constructor
      · intro hz
        rcases List.mem_cons.1 ((h z).1 (by simp [hz])) with e | e
        · subst e; exact absurd (a1 z hz) (mark_irrefl _)
        · exact e
      · intro hz
        rcases List.mem_cons.1 ((h z).2 (by simp [hz])) with e | e
        · subst e; exact absurd (b1 z hz) (mark_irrefl _)
        · exact e

def letterAt (L : List Op) (p : Str) : Int := match L.find? (fun o => o.what == 1 && o.place == p) with | some o => o.letter | none => 0
def leafAt (L : List Op) (p : Str) : Leaf := { place := p, letter := letterAt L p, struck := L.any fun o => o.what == 2 && o.place == p }
def onBook (L : List Op) (p : Str) : Prop := ∃ o ∈ L, (o.what = 1 ∨ o.what = 2) ∧ o.place = p
def Agree (L : List Op) : Prop := ∀ o ∈ L, ∀ o' ∈ L, o.what = 1 → o'.what = 1 → o.place = o'.place → o.letter = o'.letter
structure Canon (d : Doc) : Prop where
  bs : Sorted d.book
  ms : SortedM d.marks
  bm : ∀ x, x ∈ d.book ↔ onBook d.ops x.place ∧ x = leafAt d.ops x.place
  mm : ∀ m, m ∈ d.marks ↔ (∃ o ∈ d.ops, o.what = 3 ∧ o.place = m.place ∧ o.dot = m.dot) ∧ joined d.ops m.place m.dot = false
  ag : Agree d.ops
  ok : ∀ o ∈ d.ops, opErr o = 0
theorem canon_new : Canon new := by
  refine ⟨List.Pairwise.nil, List.Pairwise.nil, ?_, ?_, ?_, ?_⟩ <;> simp [new, onBook, Agree]
theorem letterAt_of {L : List Op} {o : Op} (ha : Agree L) (ho : o ∈ L) (h1 : o.what = 1) : letterAt L o.place = o.letter := by
  unfold letterAt
  cases hf : L.find? (fun x => x.what == 1 && x.place == o.place) with
  | none =>
    have := List.find?_eq_none.1 hf o ho
    simp [h1] at this
  | some x =>
    have hx := List.find?_some hf
    have hm := List.mem_of_find?_eq_some hf
    simp at hx
    exact ha x hm o ho hx.1 h1 hx.2
theorem letterAt_none {L : List Op} {p : Str} (h : ∀ o ∈ L, o.what = 1 → o.place ≠ p) : letterAt L p = 0 := by
  unfold letterAt
  cases hf : L.find? (fun x => x.what == 1 && x.place == p) with
  | none => rfl
  | some x =>
    have hx := List.find?_some hf
    have hm := List.mem_of_find?_eq_some hf
    simp at hx
    exact absurd hx.2 (h x hm hx.1)
theorem letterAt_congr {L K : List Op} (hL : Agree L) (hK : Agree K) (h : ∀ o, o ∈ L ↔ o ∈ K) (p : Str) : letterAt L p = letterAt K p := by
  by_cases he : ∃ o ∈ L, o.what = 1 ∧ o.place = p
  · obtain ⟨o, ho, h1, rfl⟩ := he
    rw [letterAt_of hL ho h1, letterAt_of hK ((h o).1 ho) h1]
  · rw [letterAt_none (fun o ho h1 hp => he ⟨o, ho, h1, hp⟩), letterAt_none (fun o ho h1 hp => he ⟨o, (h o).2 ho, h1, hp⟩)]
theorem any_congr {α : Type} {L K : List α} (f : α → Bool) (h : ∀ o, o ∈ L ↔ o ∈ K) : L.any f = K.any f := by
  rw [Bool.eq_iff_iff, List.any_eq_true, List.any_eq_true]
  exact ⟨fun ⟨x, a, b⟩ => ⟨x, (h x).1 a, b⟩, fun ⟨x, a, b⟩ => ⟨x, (h x).2 a, b⟩⟩
/-- The same ops, in whatever order: the same book, and marks. -/
theorem canon_same {d k : Doc} (hd : Canon d) (hk : Canon k) (h : ∀ o, o ∈ d.ops ↔ o ∈ k.ops) : d.book = k.book ∧ d.marks = k.marks := by
  constructor
  · refine sorted_ext hd.bs hk.bs fun x => ?_
    rw [hd.bm, hk.bm]
    have e : leafAt d.ops x.place = leafAt k.ops x.place := by
      unfold leafAt; rw [letterAt_congr hd.ag hk.ag h, any_congr _ h]
    rw [e]
    have : onBook d.ops x.place ↔ onBook k.ops x.place := ⟨fun ⟨o, a, b⟩ => ⟨o, (h o).1 a, b⟩, fun ⟨o, a, b⟩ => ⟨o, (h o).2 a, b⟩⟩
    rw [this]
  · refine sortedM_ext hd.ms hk.ms fun m => ?_
    rw [hd.mm, hk.mm]
    have e : joined d.ops m.place m.dot = joined k.ops m.place m.dot := any_congr _ h
    rw [e]
    have : (∃ o ∈ d.ops, o.what = 3 ∧ o.place = m.place ∧ o.dot = m.dot) ↔ (∃ o ∈ k.ops, o.what = 3 ∧ o.place = m.place ∧ o.dot = m.dot) :=
      ⟨fun ⟨o, a, b⟩ => ⟨o, (h o).1 a, b⟩, fun ⟨o, a, b⟩ => ⟨o, (h o).2 a, b⟩⟩
    rw [this]

theorem hasAt_spec {l : List Leaf} {p : Str} (hs : Sorted l) :
    (hasAt l p = true ∧ ∃ x ∈ l, x.place = p ∧ l.getD (ahead l p) default = x) ∨ (hasAt l p = false ∧ ∀ x ∈ l, x.place ≠ p) := by
  induction l with
  | nil => right; simp [hasAt]
  | cons y l ih =>
    obtain ⟨h1, h2⟩ := List.pairwise_cons.1 hs
    by_cases h : y.place < p
    · have e : ahead (y :: l) p = ahead l p + 1 := by simp [ahead, h]
      have e2 : hasAt (y :: l) p = hasAt l p := by simp [hasAt, e]
      rw [e2, e]
      rcases ih h2 with ⟨a, x, b, c, f⟩ | ⟨a, b⟩
      · exact .inl ⟨a, x, by simp [b], c, by simpa using f⟩
      · refine .inr ⟨a, fun x hx => ?_⟩
        rcases List.mem_cons.1 hx with rfl | hx
        · intro e; rw [e] at h; exact str_irrefl _ h
        · exact b x hx
    · have e : ahead (y :: l) p = 0 := by simp [ahead, h]
      by_cases k : y.place = p
      · exact .inl ⟨by simp [hasAt, e, k], y, by simp, k, by simp [e]⟩
      · refine .inr ⟨by simp [hasAt, e, k], fun x hx => ?_⟩
        rcases List.mem_cons.1 hx with rfl | hx
        · exact k
        · intro e'
          have := h1 x hx
          rw [e'] at this; exact h this
theorem opErr_what {o : Op} (h : opErr o = 0) : o.what = 1 ∨ o.what = 2 ∨ o.what = 3 ∨ o.what = 4 := by
  unfold opErr at h
  split at h
  · contradiction
  · split at h
    · cases h
    · omega
theorem opErr_letter {o : Op} (h : opErr o = 0) (h1 : o.what = 1) : letterOK o.letter = true := by
  unfold opErr at h
  split at h
  · contradiction
  · split at h
    · cases h
    · split at h
      · contradiction
      · split at h
        · cases h
        · rename_i g
          cases e : letterOK o.letter
          · exact absurd ⟨h1, e⟩ g
          · rfl
theorem opErr_place {o : Op} (h : opErr o = 0) : placeErr o.place = 0 := by
  unfold opErr at h
  split at h
  · contradiction
  · split at h
    · cases h
    · split at h
      · contradiction
      · rename_i g; simpa using g
theorem letterOK_ne {n : Int} (h : letterOK n = true) : n ≠ 0 := by rintro rfl; simp [letterOK] at h
theorem leafAt_other {L : List Op} {o : Op} {p : Str} (h : (o.what ≠ 1 ∧ o.what ≠ 2) ∨ o.place ≠ p) : leafAt (L ++ [o]) p = leafAt L p := by
  unfold leafAt letterAt
  rw [List.find?_append, List.any_append]
  rcases h with ⟨h1, h2⟩ | h
  · simp [h1, h2]
  · simp [h]
theorem onBook_other {L : List Op} {o : Op} {p : Str} (h : (o.what ≠ 1 ∧ o.what ≠ 2) ∨ o.place ≠ p) : onBook (L ++ [o]) p ↔ onBook L p := by
  unfold onBook
  constructor
  · rintro ⟨x, hx, a, b⟩
    rcases List.mem_append.1 hx with hx | hx
    · exact ⟨x, hx, a, b⟩
    · simp at hx; subst hx
      rcases h with ⟨h1, h2⟩ | h
      · rcases a with a | a
        · exact absurd a h1
        · exact absurd a h2
      · exact absurd b h
  · rintro ⟨x, hx, a, b⟩; exact ⟨x, by simp [hx], a, b⟩
theorem mem_at {d : Doc} (hd : Canon d) {x : Leaf} (hx : x ∈ d.book) : x = leafAt d.ops x.place := ((hd.bm x).1 hx).2
theorem off_at {d : Doc} (hd : Canon d) {p : Str} (h : ∀ x ∈ d.book, x.place ≠ p) : ¬ onBook d.ops p :=
  fun hb => h (leafAt d.ops p) ((hd.bm _).2 ⟨hb, rfl⟩) rfl
/-- the book behind an op that puts the leaf x there. -/
theorem bm_put {d : Doc} (hd : Canon d) {o : Op} (ho : o.what = 1 ∨ o.what = 2) {x : Leaf} (hx : x = leafAt (d.ops ++ [o]) o.place) (y : Leaf) :
    y ∈ put d.book x ↔ onBook (d.ops ++ [o]) y.place ∧ y = leafAt (d.ops ++ [o]) y.place := by
  have hp : x.place = o.place := by rw [hx]; rfl
  rw [mem_put _ _ _ hd.bs, hp]
  by_cases e : y.place = o.place
  · rw [e]
    constructor
    · rintro (rfl | ⟨_, b⟩)
      · exact ⟨⟨o, by simp, ho, rfl⟩, hx⟩
      · exact absurd rfl b
    · rintro ⟨_, b⟩; exact .inl (b.trans hx.symm)
  · rw [leafAt_other (.inr (fun h => e h.symm)), onBook_other (.inr (fun h => e h.symm)), hd.bm]
    constructor
    · rintro (rfl | ⟨a, _⟩)
      · exact absurd hp e
      · exact a
    · intro a; exact .inr ⟨a, e⟩
theorem mm_other {d : Doc} (hd : Canon d) {o : Op} (h3 : o.what ≠ 3) (h4 : o.what ≠ 4) (m : Mark) :
    m ∈ d.marks ↔ (∃ x ∈ d.ops ++ [o], x.what = 3 ∧ x.place = m.place ∧ x.dot = m.dot) ∧ joined (d.ops ++ [o]) m.place m.dot = false := by
  rw [hd.mm]
  have e : joined (d.ops ++ [o]) m.place m.dot = joined d.ops m.place m.dot := by simp [joined, h4]
  rw [e]
  constructor
  · rintro ⟨⟨x, a, b⟩, c⟩; exact ⟨⟨x, by simp [a], b⟩, c⟩
  · rintro ⟨⟨x, a, b⟩, c⟩
    rcases List.mem_append.1 a with a | a
    · exact ⟨⟨x, a, b⟩, c⟩
    · simp at a; subst a; exact absurd b.1 h3
theorem any_strike {L : List Op} {o : Op} (h2 : o.what ≠ 2) (p : Str) : (L ++ [o]).any (fun o => o.what == 2 && o.place == p) = L.any fun o => o.what == 2 && o.place == p := by
  simp [h2]
/-- An op that is applied: what there is is just what the ops say. -/
theorem canon_apply {d d' : Doc} {o : Op} (hd : Canon d) (h : apply d o = (true, 0, d')) : Canon d' := by
  unfold apply at h
  split at h
  · cases h
  · rename_i hop
    have hop : opErr o = 0 := by simpa using hop
    split at h
    · cases h
    · split at h
      · cases h
      · split at h
        · cases h
        · split at h
          · cases h
          · rename_i b m ht
            cases h
            have hok : ∀ x ∈ d.ops ++ [o], opErr x = 0 := by
              intro x hx
              rcases List.mem_append.1 hx with hx | hx
              · exact hd.ok x hx
              · simp at hx; subst hx; exact hop
            have hag2 : o.what ≠ 1 → Agree (d.ops ++ [o]) := by
              intro h1 x hx y hy hx1 hy1 e
              rcases List.mem_append.1 hx with hx | hx <;> rcases List.mem_append.1 hy with hy | hy
              · exact hd.ag x hx y hy hx1 hy1 e
              · simp at hy; subst hy; exact absurd hy1 h1
              · simp at hx; subst hx; exact absurd hx1 h1
              · simp at hx; subst hx; exact absurd hx1 h1
            rcases opErr_what hop with h1 | h1 | h1 | h1
            · -- a letter is written
              simp only [turn, h1, if_true] at ht
              unfold write at ht
              rw [if_neg (by simp [opErr_letter hop h1])] at ht
              rcases hasAt_spec (p := o.place) hd.bs with ⟨a, x, hx, hxp, hxd⟩ | ⟨a, hno⟩
              · simp only [a, if_true, hxd] at ht
                split at ht
                · cases ht
                · rename_i hc
                  cases ht
                  have hxl := mem_at hd hx
                  have hcl : x.letter = 0 ∨ x.letter = o.letter := by
                    rcases Classical.em (x.letter = 0) with e | e
                    · exact .inl e
                    · rcases Classical.em (x.letter = o.letter) with f | f
                      · exact .inr f
                      · exact absurd ⟨e, f⟩ hc
                  have hag : Agree (d.ops ++ [o]) := by
                    have key : ∀ y ∈ d.ops, y.what = 1 → y.place = o.place → y.letter = o.letter := by
                      intro y hy hy1 hyp
                      have e1 := letterAt_of hd.ag hy hy1
                      have e2 : x.letter = y.letter := by rw [hxl, hxp, ← hyp]; exact e1
                      rcases hcl with e | e
                      · exact absurd (e2.symm.trans e) (letterOK_ne (opErr_letter (hd.ok y hy) hy1))
                      · exact e2.symm.trans e
                    intro y hy z hz hy1 hz1 e
                    rcases List.mem_append.1 hy with hy' | hy' <;> rcases List.mem_append.1 hz with hz' | hz'
                    · exact hd.ag y hy' z hz' hy1 hz1 e
                    · simp at hz'; subst hz'; exact key y hy' hy1 e
                    · simp at hy'; subst hy'; exact (key z hz' hz1 e.symm).symm
                    · simp at hy' hz'; subst hy'; subst hz'; rfl
                  have hx' : ({ x with letter := o.letter } : Leaf) = leafAt (d.ops ++ [o]) o.place := by
                    unfold leafAt
                    rw [letterAt_of hag (by simp) h1, any_strike (by omega), ← hxp]
                    conv => lhs; rw [hxl]
                    rfl
                  refine ⟨?_, hd.ms, ?_, mm_other hd (by omega) (by omega), hag, hok⟩
                  · show Sorted (setLeaf _ _); rw [setLeaf_put]; exact sorted_put _ _ hd.bs
                  · intro y; show y ∈ setLeaf _ _ ↔ _; rw [setLeaf_put]; exact bm_put hd (.inl h1) hx' y
              · simp only [a] at ht
                rw [if_neg (by simp)] at ht
                split at ht
                · cases ht
                · cases ht
                  have hag : Agree (d.ops ++ [o]) := by
                    have key : ∀ y ∈ d.ops, y.what = 1 → y.place ≠ o.place := fun y hy hy1 hyp => off_at hd hno ⟨y, hy, .inl hy1, hyp⟩
                    intro y hy z hz hy1 hz1 e
                    rcases List.mem_append.1 hy with hy' | hy' <;> rcases List.mem_append.1 hz with hz' | hz'
                    · exact hd.ag y hy' z hz' hy1 hz1 e
                    · simp at hz'; subst hz'; exact absurd e (key y hy' hy1)
                    · simp at hy'; subst hy'; exact absurd e.symm (key z hz' hz1)
                    · simp at hy' hz'; subst hy'; subst hz'; rfl
                  have hx' : ({ place := o.place, letter := o.letter, struck := false } : Leaf) = leafAt (d.ops ++ [o]) o.place := by
                    unfold leafAt
                    rw [letterAt_of hag (by simp) h1, any_strike (by omega)]
                    have : (d.ops.any fun x => x.what == 2 && x.place == o.place) = false := by
                      rw [List.any_eq_false]
                      intro y hy hh
                      simp at hh
                      exact off_at hd hno ⟨y, hy, .inr hh.1, hh.2⟩
                    rw [this]
                  refine ⟨?_, hd.ms, ?_, mm_other hd (by omega) (by omega), hag, hok⟩
                  · show Sorted (setLeaf _ _); rw [setLeaf_put]; exact sorted_put _ _ hd.bs
                  · intro y; show y ∈ setLeaf _ _ ↔ _; rw [setLeaf_put]; exact bm_put hd (.inl h1) hx' y
            · -- a leaf is struck
              have hl : ∀ p, letterAt (d.ops ++ [o]) p = letterAt d.ops p := by
                intro p; unfold letterAt; rw [List.find?_append]; simp [h1]
              have hs : (d.ops ++ [o]).any (fun x => x.what == 2 && x.place == o.place) = true := by simp [h1]
              simp only [turn, h1, if_true] at ht
              rw [if_neg (by omega)] at ht
              unfold strike at ht
              rcases hasAt_spec (p := o.place) hd.bs with ⟨a, x, hx, hxp, hxd⟩ | ⟨a, hno⟩
              · simp only [a, if_true, hxd] at ht
                cases ht
                have hxl := mem_at hd hx
                have hx' : ({ x with struck := true } : Leaf) = leafAt (d.ops ++ [o]) o.place := by
                  unfold leafAt
                  rw [hl, hs, ← hxp]
                  conv => lhs; rw [hxl]
                  rfl
                refine ⟨?_, hd.ms, ?_, mm_other hd (by omega) (by omega), hag2 (by omega), hok⟩
                · show Sorted (setLeaf _ _); rw [setLeaf_put]; exact sorted_put _ _ hd.bs
                · intro y; show y ∈ setLeaf _ _ ↔ _; rw [setLeaf_put]; exact bm_put hd (.inr h1) hx' y
              · simp only [a] at ht
                rw [if_neg (by simp)] at ht
                split at ht
                · cases ht
                · cases ht
                  have hx' : ({ place := o.place, letter := 0, struck := true } : Leaf) = leafAt (d.ops ++ [o]) o.place := by
                    unfold leafAt
                    rw [hl, hs, letterAt_none]
                    intro y hy hy1 hyp
                    exact off_at hd hno ⟨y, hy, .inl hy1, hyp⟩
                  refine ⟨?_, hd.ms, ?_, mm_other hd (by omega) (by omega), hag2 (by omega), hok⟩
                  · show Sorted (setLeaf _ _); rw [setLeaf_put]; exact sorted_put _ _ hd.bs
                  · intro y; show y ∈ setLeaf _ _ ↔ _; rw [setLeaf_put]; exact bm_put hd (.inr h1) hx' y
            · -- cut
              have hbm : ∀ x, x ∈ d.book ↔ onBook (d.ops ++ [o]) x.place ∧ x = leafAt (d.ops ++ [o]) x.place := by
                intro x; rw [leafAt_other (.inl ⟨by omega, by omega⟩), onBook_other (.inl ⟨by omega, by omega⟩)]; exact hd.bm x
              have hj : ∀ p x, joined (d.ops ++ [o]) p x = joined d.ops p x := by intro p x; simp [joined, h1]
              simp only [turn, h1, if_true] at ht
              rw [if_neg (by omega), if_neg (by omega)] at ht
              split at ht
              · rename_i hjo
                cases ht
                refine ⟨hd.bs, hd.ms, hbm, fun y => ?_, hag2 (by omega), hok⟩
                show y ∈ d.marks ↔ _
                rw [hd.mm, hj]
                constructor
                · rintro ⟨⟨x, a, b⟩, c⟩; exact ⟨⟨x, by simp [a], b⟩, c⟩
                · rintro ⟨⟨x, a, b, e, f⟩, c⟩
                  rcases List.mem_append.1 a with a | a
                  · exact ⟨⟨x, a, b, e, f⟩, c⟩
                  · simp at a; subst a; rw [← e, ← f, hjo] at c; cases c
              · rename_i hjo
                cases hcm : cutMark d.marks { place := o.place, dot := o.dot } with
                | error e => rw [hcm] at ht; cases ht
                | ok m' =>
                  rw [hcm] at ht; cases ht
                  have hm' := cutMark_put hcm
                  refine ⟨hd.bs, ?_, hbm, fun y => ?_, hag2 (by omega), hok⟩
                  · show SortedM m
                    rw [hm']; split
                    · exact hd.ms
                    · rename_i hn; exact sorted_putMark _ _ hd.ms hn
                  · have hmem : y ∈ m ↔ y = { place := o.place, dot := o.dot } ∨ y ∈ d.marks := by
                      rw [hm']; split
                      · rename_i hn
                        exact ⟨.inr, fun h => h.elim (fun e => e ▸ hn) id⟩
                      · exact mem_putMark _ _ _
                    show y ∈ m ↔ _
                    rw [hmem, hd.mm, hj]
                    constructor
                    · rintro (rfl | ⟨⟨x, a, b⟩, c⟩)
                      · exact ⟨⟨o, by simp, h1, rfl, rfl⟩, by simpa using hjo⟩
                      · exact ⟨⟨x, by simp [a], b⟩, c⟩
                    · rintro ⟨⟨x, a, b, e, f⟩, c⟩
                      rcases List.mem_append.1 a with a | a
                      · exact .inr ⟨⟨x, a, b, e, f⟩, c⟩
                      · simp at a; subst a; left; cases y; simp at e f; simp [e, f]
            · -- join
              have hbm : ∀ x, x ∈ d.book ↔ onBook (d.ops ++ [o]) x.place ∧ x = leafAt (d.ops ++ [o]) x.place := by
                intro x; rw [leafAt_other (.inl ⟨by omega, by omega⟩), onBook_other (.inl ⟨by omega, by omega⟩)]; exact hd.bm x
              have hj : ∀ p x, joined (d.ops ++ [o]) p x = (joined d.ops p x || (o.place == p && o.seen.contains x)) := by
                intro p x; simp [joined, h1]
              simp only [turn, h1] at ht
              rw [if_neg (by omega), if_neg (by omega), if_neg (by omega)] at ht
              cases ht
              refine ⟨hd.bs, hd.ms.filter _, hbm, fun y => ?_, hag2 (by omega), hok⟩
              show y ∈ without d.marks o.place o.seen ↔ _
              unfold without
              rw [List.mem_filter, hd.mm, hj]
              constructor
              · rintro ⟨⟨⟨x, a, b⟩, c⟩, e⟩
                refine ⟨⟨x, by simp [a], b⟩, ?_⟩
                rw [c, Bool.false_or]
                by_cases hp : y.place = o.place
                · simpa [hp] using e
                · simp [show (o.place == y.place) = false from by rw [beq_eq_false_iff_ne]; exact fun h => hp h.symm]
              · rintro ⟨⟨x, a, b⟩, c⟩
                rw [Bool.or_eq_false_iff] at c
                rcases List.mem_append.1 a with a | a
                · refine ⟨⟨⟨x, a, b⟩, c.1⟩, ?_⟩
                  by_cases hp : y.place = o.place
                  · simpa [hp] using c.2
                  · simp [hp]
                · simp at a; subst a; omega

end Go.Proofs.YtlbnafnbjgageaaGreatDoor
