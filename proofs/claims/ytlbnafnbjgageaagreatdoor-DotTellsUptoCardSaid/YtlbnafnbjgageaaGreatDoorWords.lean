/- Words for memory, over whatever program: a slice that reads as a list ('Row'), one element appended to a row of the call's own ('wpList_push'). -/
import Derived.WalkKit
import Derived.WalkLawsBesides
import Derived.WalkSpells
import Derived.Deep.LoopGhost
import Derived.Deep.Draws
import Derived.Deep.OwnRows
import Derived.Lib.Hide
namespace Go.Proofs.YtlbnafnbjgageaaGreatDoor
open Go.RowKit

/-- The slice at address ad holds xs, each by the cells 'enc' gives, in blocks of G alone. -/
def Row {α : Type} (w : World) (G : Nat → Prop) (k : Nat) (enc : α → List Value) (ad : Option Addr) (xs : List α) : Prop :=
  xs ≠ [] → ∃ b off, ad = some ⟨b, off, none⟩ ∧ G b ∧ ∀ i x, xs[i]? = some x → ∀ j u, (enc x)[j]? = some u → w.cell? ⟨b, off + i * k + j, none⟩ = some u

theorem lt_of_cell {w : World} {b o : Nat} {v : Value} (h : w.cell? ⟨b, o, none⟩ = some v) : b < w.heap.size := by
  rcases Nat.lt_or_ge b w.heap.size with a | a
  · exact a
  · simp [World.cell?, Array.getElem?_eq_none a] at h

/-- Off the blocks of F, the world w' is as w was. -/
structure Off (F : Nat → Prop) (w w' : World) : Prop where
  os : w'.os = w.os
  tape : w'.tape = w.tape
  output : w'.output = w.output
  size : w.heap.size ≤ w'.heap.size
  block : ∀ k, k < w.heap.size → ¬ F k → w'.heap[k]? = w.heap[k]?

theorem Off.of_below {w w' : World} (F : Nat → Prop) (h : Below w.heap.size w w') : Off F w w' := ⟨h.os, h.tape, h.output, h.size, fun k hk _ => h.block k hk⟩
theorem Off.below {w w' : World} {F : Nat → Prop} {B : Nat} (h : Off F w w') (hF : ∀ k, F k → B ≤ k) (hB : B ≤ w.heap.size) : Below B w w' :=
  ⟨h.os, h.tape, h.output, h.size, fun k hk => h.block k (Nat.lt_of_lt_of_le hk hB) (fun f => Nat.not_lt.2 (hF k f) hk)⟩
theorem Off.refl (F : Nat → Prop) (w : World) : Off F w w := ⟨rfl, rfl, rfl, Nat.le_refl _, fun _ _ _ => rfl⟩
theorem Off.trans {F F' : Nat → Prop} {a b c : World} (h : Off F a b) (k : Off F' b c) (hF : ∀ x, F' x → F x ∨ a.heap.size ≤ x) : Off F a c :=
  ⟨k.os.trans h.os, k.tape.trans h.tape, k.output.trans h.output, Nat.le_trans h.size k.size, fun i hi hn =>
    (k.block i (Nat.lt_of_lt_of_le hi h.size) (fun f => (hF i f).elim hn (fun g => Nat.not_lt.2 g hi))).trans (h.block i hi hn)⟩
theorem Off.mono {F F' : Nat → Prop} {a b : World} (h : Off F a b) (hF : ∀ x, F x → F' x) : Off F' a b :=
  ⟨h.os, h.tape, h.output, h.size, fun i hi hn => h.block i hi (fun f => hn (hF i f))⟩

section
variable {α : Type} {w w' : World} {G G' F : Nat → Prop} {k : Nat} {enc : α → List Value} {ad : Option Addr} {xs : List α}
theorem Row.mono (h : Row w G k enc ad xs) (hG : ∀ b, G b → G' b) : Row w G' k enc ad xs := fun hne => by
  obtain ⟨b, off, e, g, hc⟩ := h hne
  exact ⟨b, off, e, hG b g, hc⟩
theorem Row.nil (w : World) (G : Nat → Prop) (k : Nat) (enc : α → List Value) (ad : Option Addr) : Row w G k enc ad [] := fun h => absurd rfl h
theorem Row.keep (he : ∀ x, enc x ≠ []) (h : Row w G k enc ad xs) (hk : ∀ b, b < w.heap.size → G b → w'.heap[b]? = w.heap[b]?) : Row w' G k enc ad xs := by
  intro hne
  obtain ⟨b, off, e, g, hc⟩ := h hne
  obtain ⟨x, hx⟩ : ∃ x, xs[0]? = some x := ⟨_, List.getElem?_eq_getElem (List.length_pos_iff.2 hne)⟩
  obtain ⟨u, hu⟩ : ∃ u, (enc x)[0]? = some u := ⟨_, List.getElem?_eq_getElem (List.length_pos_iff.2 (he x))⟩
  have hlt := lt_of_cell (hc 0 x hx 0 u hu)
  exact ⟨b, off, e, g, fun i x hx j u hu => (World.cell?_of_block (w := w) (a := ⟨b, off + i * k + j, none⟩) (hk b hlt g)).trans (hc i x hx j u hu)⟩
theorem Row.off (he : ∀ x, enc x ≠ []) (h : Row w G k enc ad xs) (ho : Off F w w') (hd : ∀ b, G b → ¬ F b) : Row w' G k enc ad xs := h.keep he fun b hb g => ho.block b hb (hd b g)
theorem Row.below (he : ∀ x, enc x ≠ []) (h : Row w G k enc ad xs) (hb : Below w.heap.size w w') : Row w' G k enc ad xs := h.keep he fun b hb' _ => hb.block b hb'
theorem Row.under {B : Nat} (he : ∀ x, enc x ≠ []) (h : Row w G k enc ad xs) (hb : Below B w w') (hG : ∀ b, G b → b < B) : Row w' G k enc ad xs := h.keep he fun b _ g => hb.block b (hG b g)
end

/-- A slice type of the program: its element's zero value, cells, bytes. -/
structure SliceTy (P : Program) (t e : TypeId) (z : Value) (size bytes : Nat) : Prop where
  und : P.underlying t = some (.slice e)
  info : (P.info? e).map (fun i => (i.zero, i.size, i.bytes)) = some (some z, size, bytes)
  zs : z.cells.size = size
  pos : 0 < size

/-- One element appended to a row of the call's own: 'out = append(out, x)'. -/
theorem wpList_push {P : Program} {ops : Array Oper} {rest : List Oper} {o : Oper} {a : Act} {Q : Exit → Act → World → Prop} {W w : World} {base : Nat} (hgd : o.guard = none) (s x : Operand) (t : TypeId)
    (ho : o.op = .call { callee := .builtin .append, args := #[s, x], argTypes := #[t, t] })
    {e : TypeId} {z : Value} {size bytes : Nat} (T : SliceTy P t e z size bytes) (cs : Array Value) (hcs : cs.size = size) (h1 : ∀ u ∈ cs.toList, u.oneCell' = true)
    (v : Value) (n c : Nat) (xs : List Value) (hs : a.eval s = v) (hx : a.eval x = .slice (some ⟨w.heap.size, 0, none⟩) 1 c) (hown : w.ownsRow base e size v n xs)
    (h63 : n + 1 ≤ 1000000000000) (hbytes : bytes ≤ 128) (hB : Below base W w) (hbase : base ≤ w.heap.size)
    (h : ∀ v' w', w'.ownsRow base e size v' (n + 1) (xs ++ cs.toList) → Below base W w' → base ≤ w'.heap.size → wpList P ops Q rest (a.put o.dst v') w') :
    wpList P ops Q (o :: rest) a (w.alloc (.cells cs e)) := by
  obtain ⟨i0, hi, hz0, hz1, hz2⟩ := info_parts T.info
  refine wpList_append_own (w.alloc (.cells cs e)) hgd s x t ho base e i0 z size bytes T.und hi hz0 hz1 hz2 T.zs T.pos v n xs hs (hown.alloc _) ⟨w.heap.size, 0, none⟩ 1 c cs.toList hx (by simp [hcs]) ?_ h1 (by unfold maxLen; omega) ?_ (by simp; omega) ?_
  · intro j u hj
    have : ((⟨w.heap.size, 0, none⟩ : Addr).add j) = ⟨w.heap.size, j, none⟩ := by unfold Addr.add; split <;> simp_all
    rw [this]
    simp only [Array.getElem?_toList] at hj
    rw [World.cell?_alloc_at _ _ _ _ rfl]; exact hj
  · have : (n + 1) * bytes ≤ 1000000000000 * 128 := Nat.mul_le_mul h63 hbytes
    omega
  · intro v' w' ho' hg _
    have hb' : Below base W w' := (hB.alloc hbase _).grown hg (by simp; omega) (fun k hk => (hown.lt k hk).1)
    exact h v' w' ho' hb' (Nat.le_trans hbase (Nat.le_trans (by simp) hg.size))

theorem flat_len {α : Type} {k : Nat} {enc : α → List Value} (hk : ∀ x, (enc x).length = k) : ∀ xs : List α, (xs.flatMap enc).length = xs.length * k
  | [] => by simp
  | x :: xs => by rw [List.flatMap_cons, List.length_append, hk, flat_len hk xs, List.length_cons, Nat.succ_mul, Nat.add_comm]
theorem flat_at {α : Type} {k : Nat} {enc : α → List Value} (hk : ∀ x, (enc x).length = k) {x : α} {j : Nat} {u : Value} : ∀ (xs : List α) (i : Nat), xs[i]? = some x → (enc x)[j]? = some u → (xs.flatMap enc)[i * k + j]? = some u
  | [], i, h, _ => by simp at h
  | y :: xs, 0, h, hu => by
    simp at h; subst h
    have hj : j < (enc y).length := (List.getElem?_eq_some_iff.1 hu).1
    rw [List.flatMap_cons, Nat.zero_mul, Nat.zero_add, List.getElem?_append_left hj]; exact hu
  | y :: xs, i + 1, h, hu => by
    have ih := flat_at hk xs i (by simpa using h) hu
    have e : (i + 1) * k + j = (enc y).length + (i * k + j) := by rw [hk, Nat.succ_mul]; omega
    rw [List.flatMap_cons, e, List.getElem?_append_right (Nat.le_add_right _ _), Nat.add_sub_cancel_left]; exact ih
/-- A row of the call's own reads as a list. -/
theorem Row.of_own {α : Type} {w : World} {base : Nat} {e : TypeId} {k n c : Nat} {enc : α → List Value} {ad : Option Addr} {xs : List α} {ys : List Value} (hk : ∀ x, (enc x).length = k)
    (h : w.ownsRow base e k (.slice ad n c) xs.length ys) (hy : ys = xs.flatMap enc) : Row w (fun b => base ≤ b ∧ b < w.heap.size) k enc ad xs := by
  intro hne
  subst hy
  have hp := List.length_pos_iff.2 hne
  rcases h.2 with ⟨_, hn⟩ | ⟨g, cap, cur, hv, hg, hh, _, _, hsz, htk⟩
  · omega
  · injection hv with h1 _ _
    subst h1
    have hlt : g < w.heap.size := (Array.getElem?_eq_some_iff.1 hh).1
    refine ⟨g, 0, rfl, ⟨hg, hlt⟩, fun i x hx j u hu => ?_⟩
    have hf := flat_at hk xs i hx hu
    rw [← htk, List.getElem?_take] at hf
    split at hf
    · rw [Nat.zero_add]
      simp only [World.cell?, hh]
      simpa using hf
    · cases hf

def byteCell (c : UInt8) : Value := .int .u8 c.toNat
theorem byteCell_ofInt (n : Int) : byteCell (UInt8.ofInt n) = .int .u8 (n % 256) := by
  unfold byteCell
  have : ((UInt8.ofInt n).toNat : Int) = n % 256 := by
    simp [UInt8.ofInt]; omega
  rw [this]
/-- 'string(b)', b a row of the call's own. -/
theorem run_convert_own {P : Program} {w : World} (src dst e : TypeId) (hs : P.underlying src = some (.slice e)) (he : P.underlying e = some (.int .u8)) (hd : P.underlying dst = some .string)
    {base : Nat} {v : Value} {l : List UInt8} (h : w.ownsRow base e 1 v l.length (l.map byteCell)) : (convert src dst v).run P w = .ok (.string ⟨l.toArray⟩) w := by
  rcases h.2 with ⟨rfl, hn⟩ | ⟨g, cap, cur, rfl, hg, hh, _, _, hsz, htk⟩
  · have : l = [] := List.eq_nil_of_length_eq_zero hn
    subst this
    rw [run_convert_bytes_string w src dst e none 0 0 hs he hd]
    simp [Conv.bytesToString]
    rfl
  · refine run_convert_bytes_back w src dst e ⟨g, 0, none⟩ cap l hs he hd fun j hj => ?_
    have e1 : ((⟨g, 0, none⟩ : Addr).add j) = ⟨g, j, none⟩ := by unfold Addr.add; split <;> simp_all
    have h1 : (cur.toList.take (l.length * 1))[j]? = some (byteCell l[j]) := by rw [htk]; simp [hj]
    rw [List.getElem?_take] at h1
    split at h1
    · rw [e1]; simp only [World.cell?, hh]; simpa [byteCell] using h1
    · cases h1
/-- '[]byte(s)': a new slice that holds the bytes; how much room is behind them is not known. -/
theorem bytes_of {P : Program} (w : World) (src dst e : TypeId) (s : ByteArray) (hs : P.underlying src = some .string) (hd : P.underlying dst = some (.slice e)) (he : P.underlying e = some (.int .u8)) :
    ∃ c w1, (convert src dst (.string s)).run P w = .ok (.slice (some ⟨w.heap.size, 0, none⟩) s.size c) w1 ∧ Below w.heap.size w w1 ∧ w.heap.size < w1.heap.size ∧
      ∀ j (hj : j < s.size), w1.cell? ⟨w.heap.size, j, none⟩ = some (.int .u8 (s.data[j].toNat : Int)) := by
  refine ⟨_, _, run_bytes_of_string w src dst e s hs hd he, (Below.refl _ _).drew.alloc (Nat.le_refl _) _, by simp, fun j hj => ?_⟩
  have := bytesRow_at s (grownCap w s.size 0 e) j hj
  show (w.alloc _).cell? _ = _
  simp only [World.cell?]
  have h : (w.alloc (.cells (bytesRow s (grownCap w s.size 0 e)) e ((bytesRow s (grownCap w s.size 0 e)).size, (bytesRow s (grownCap w s.size 0 e)).size + 1))).heap[w.heap.size]? = some (.cells (bytesRow s (grownCap w s.size 0 e)) e ((bytesRow s (grownCap w s.size 0 e)).size, (bytesRow s (grownCap w s.size 0 e)).size + 1)) := heap_alloc_new w _
  rw [h]; simpa using this
/-! A block that is known whole. -/
section
variable {w w' : World} {g : Nat} {t : TypeId} {cs : Array Value}
theorem blk_lt {o : Obj} (h : w.heap[g]? = some o) : g < w.heap.size := (Array.getElem?_eq_some_iff.1 h).1
theorem blk_cell {fr : Nat × Nat} (h : w.heap[g]? = some (.cells cs t fr)) (i : Nat) : w.cell? ⟨g, i, none⟩ = cs[i]? := by simp [World.cell?, h]
theorem blk_free (h : w.heap[g]? = some (.cells cs t (0, 0))) (i : Nat) : w.frozen? ⟨g, i, none⟩ = false := by simp [World.frozen?, h]
theorem blk_set (h : w.heap[g]? = some (.cells cs t (0, 0))) (i : Nat) (u : Value) : (w.setCell ⟨g, i, none⟩ u).heap[g]? = some (.cells (cs.setIfInBounds i u) t (0, 0)) := by
  simp [World.setCell, Array.getElem?_modify, h]
theorem blk_far {o : Obj} (h : w.heap[g]? = some o) {p : Addr} (hp : g ≠ p.block) (u : Value) : (w.setCell p u).heap[g]? = some o := (Below.heap_setCell w p u g hp).trans h
theorem blk_alloc {o : Obj} (h : w.heap[g]? = some o) (x : Obj) : (w.alloc x).heap[g]? = some o := (Below.heap_alloc w x g (blk_lt h)).trans h
theorem blk_below {B : Nat} {o : Obj} (h : w.heap[g]? = some o) (hb : Below B w w') (hg : g < B) : w'.heap[g]? = some o := (hb.block g hg).trans h
theorem blk_next {o : Obj} (h : w.heap[g]? = some o) (hb : Below w.heap.size w w') : w'.heap[g]? = some o := (hb.block g (blk_lt h)).trans h
theorem blk_new (w : World) (o : Obj) : (w.alloc o).heap[w.heap.size]? = some o := heap_alloc_new w o
end
theorem tup_eq {a b c d : Value} (h : b = a) (k : d = c) : Ending.returned (.tuple #[a, c]) = .returned (.tuple #[b, d]) := by rw [h, k]
theorem ret_eq {a b : Value} (h : b = a) : Ending.returned a = .returned b := by rw [h]
/-- 'string([]byte{c})'. -/
theorem conv_one {P : Program} (src dst e : TypeId) (hs : P.underlying src = some (.slice e)) (he : P.underlying e = some (.int .u8)) (hd : P.underlying dst = some .string) (c : UInt8) (n : Int) (hn : n = c.toNat) (w : World) :
    (convert src dst (.slice (some ⟨w.heap.size, 0, none⟩) 1 1)).run P (w.alloc (.cells #[.int .u8 n] e)) = .ok (.string ⟨[c].toArray⟩) (w.alloc (.cells #[.int .u8 n] e)) := by
  subst hn
  refine run_convert_bytes_back _ src dst e ⟨w.heap.size, 0, none⟩ 1 [c] hs he hd fun j hj => ?_
  have : j = 0 := by simp at hj; omega
  subst this
  show (w.alloc _).cell? ⟨w.heap.size, 0, none⟩ = _
  rw [blk_cell (blk_new w _)]; rfl
theorem past_alloc {B : Nat} {w w' : World} {o : Obj} (h : Below B (w.alloc o) w') (hB : w.heap.size ≤ B) : Below w.heap.size w w' :=
  ((Below.refl _ w).alloc (Nat.le_refl _) o).trans (h.mono hB)
theorem bnext {B : Nat} {a b c : World} (h : Below B a b) (k : Below b.heap.size b c) (hB : B ≤ b.heap.size) : Below B a c := h.trans (k.mono hB)
theorem own_below {w w' : World} {base : Nat} {e : TypeId} {size n : Nat} {v : Value} {xs : List Value} (h : w.ownsRow base e size v n xs) (hb : Below w.heap.size w w') : w'.ownsRow base e size v n xs :=
  h.kept (row := none) ⟨hb.os, hb.tape, hb.output, hb.size, fun k hk _ => hb.block k hk⟩ (by
    cases h' : v.ownBlock
    · exact .inl rfl
    · right; simp)
theorem below_size {b c : World} {B : Nat} (k : Below b.heap.size b c) (hB : B ≤ b.heap.size) : B ≤ c.heap.size := Nat.le_trans hB k.size

theorem flat_inv {α : Type} {k : Nat} {enc : α → List Value} (hk : ∀ x, (enc x).length = k) {u : Value} : ∀ (xs : List α) (j : Nat), (xs.flatMap enc)[j]? = some u → ∃ i r x, xs[i]? = some x ∧ (enc x)[r]? = some u ∧ j = i * k + r
  | [], j, h => by simp at h
  | y :: xs, j, h => by
    rw [List.flatMap_cons] at h
    by_cases hj : j < (enc y).length
    · rw [List.getElem?_append_left hj] at h
      exact ⟨0, j, y, rfl, h, by simp⟩
    · rw [List.getElem?_append_right (by omega)] at h
      obtain ⟨i, r, x, h1, h2, h3⟩ := flat_inv hk xs _ h
      refine ⟨i + 1, r, x, by simpa using h1, h2, ?_⟩
      rw [hk] at h3 hj
      rw [Nat.succ_mul]; omega
theorem addr_add (b off j : Nat) : ((⟨b, off, none⟩ : Addr).add j) = ⟨b, off + j, none⟩ := by unfold Addr.add; split <;> simp_all
theorem Row.flat {α : Type} {w : World} {G : Nat → Prop} {k : Nat} {enc : α → List Value} {b off : Nat} {xs : List α} (hk : ∀ x, (enc x).length = k) (h : Row w G k enc (some ⟨b, off, none⟩) xs) :
    ∀ j u, (xs.flatMap enc)[j]? = some u → w.cell? ((⟨b, off, none⟩ : Addr).add j) = some u := by
  intro j u hu
  obtain ⟨i, r, x, h1, h2, rfl⟩ := flat_inv hk xs j hu
  obtain ⟨b', off', e, _, hc⟩ := h (by rintro rfl; simp at h1)
  cases e
  rw [addr_add, ← Nat.add_assoc]
  exact hc i x h1 r u h2
theorem run_append_nil_src {P : Program} {w : World} (base : Nat) (t ty e : TypeId) {z : Value} {size bytes : Nat} (T : SliceTy P t e z size bytes)
    (v : Value) (n : Nat) (xs : List Value) (hown : w.ownsRow base e size v n xs) (c : Nat) : (Builtin.append_ #[t, t] ty #[v, .slice none 0 c]).run P w = .ok v w := by
  obtain ⟨i, hi, _, _, _⟩ := info_parts T.info
  rcases hown.2 with ⟨rfl, rfl⟩ | ⟨g, cap, cur, rfl, _, _, hnc, _⟩
  · simp [Builtin.append_, run_underlying T.und, sizeOf, typeInfo, hi, Builtin.lenOf, Builtin.firstCells]
  · simp [Builtin.append_, run_underlying T.und, sizeOf, typeInfo, hi, Builtin.lenOf, Builtin.firstCells, hnc, storeCells]
/-- 'out = append(out, xs...)', out a row of the call's own, xs whatever reads as a list. -/
theorem wpList_append_row {P : Program} {ops : Array Oper} {rest : List Oper} {o : Oper} {a : Act} {Q : Exit → Act → World → Prop} {W w : World} {base : Nat} (hgd : o.guard = none) (s x : Operand) (t : TypeId)
    (ho : o.op = .call { callee := .builtin .append, args := #[s, x], argTypes := #[t, t] })
    {e : TypeId} {z : Value} {size bytes : Nat} (T : SliceTy P t e z size bytes) {α : Type} {G : Nat → Prop} {enc : α → List Value} (hk : ∀ x, (enc x).length = size) (h1 : ∀ x, ∀ u ∈ enc x, u.oneCell' = true)
    (v : Value) (n c : Nat) (xs : List Value) (ad : Option Addr) (L : List α) (hs : a.eval s = v) (hx : a.eval x = .slice ad L.length c) (hown : w.ownsRow base e size v n xs) (hrow : Row w G size enc ad L)
    (h63 : n + L.length ≤ 1000000000000) (hbytes : bytes ≤ 128) (hB : Below base W w) (hbase : base ≤ w.heap.size)
    (h : ∀ v' w', w'.ownsRow base e size v' (n + L.length) (xs ++ L.flatMap enc) → Below base W w' → base ≤ w'.heap.size → wpList P ops Q rest (a.put o.dst v') w') :
    wpList P ops Q (o :: rest) a w := by
  by_cases hL : L = []
  · subst hL
    rcases ad with _ | ad
    · refine wpList_plain hgd fun K hK => ?_
      have hrun := run_append_nil_src (P := P) (w := w) base t o.type e T v n xs hown c
      unfold Oper.wp
      simp [execOp, ho, resolve, invoke, builtin, hs, hx, hrun, Result.andThen]
      exact hK _ _ (h _ _ (by simpa using hown) hB hbase)
    · obtain ⟨i0, hi, hz0, hz1, hz2⟩ := info_parts T.info
      refine wpList_append_own w hgd s x t ho base e i0 z size bytes T.und hi hz0 hz1 hz2 T.zs T.pos v n xs hs hown ad 0 c [] hx (by simp) (by simp) (by simp) (by unfold maxLen; simp at h63; omega) ?_ hbase ?_
      · have : (n + 0) * bytes ≤ 1000000000000 * 128 := Nat.mul_le_mul (by simpa using h63) hbytes
        omega
      · intro v' w' ho' hg _
        exact h v' w' (by simpa using ho') (hB.grown hg hbase (fun k hk => (hown.lt k hk).1)) (Nat.le_trans hbase hg.size)
  · obtain ⟨b, off, rfl, _, _⟩ := hrow hL
    obtain ⟨i0, hi, hz0, hz1, hz2⟩ := info_parts T.info
    refine wpList_append_own w hgd s x t ho base e i0 z size bytes T.und hi hz0 hz1 hz2 T.zs T.pos v n xs hs hown ⟨b, off, none⟩ L.length c (L.flatMap enc) hx (flat_len hk L) (hrow.flat hk) ?_ (by unfold maxLen; omega) ?_ hbase ?_
    · intro u hu
      obtain ⟨y, _, hy⟩ := List.mem_flatMap.1 hu
      exact h1 y u hy
    · have : (n + L.length) * bytes ≤ 1000000000000 * 128 := Nat.mul_le_mul h63 hbytes
      omega
    · intro v' w' ho' hg _
      exact h v' w' ho' (hB.grown hg hbase (fun k hk => (hown.lt k hk).1)) (Nat.le_trans hbase hg.size)
theorem own_mono {w : World} {base base' : Nat} {e : TypeId} {size : Nat} {v : Value} {n : Nat} {xs : List Value} (h : w.ownsRow base e size v n xs) (hb : base' ≤ base) : w.ownsRow base' e size v n xs := by
  rcases h with ⟨h1, h2 | ⟨g, cap, cur, a, b, c⟩⟩
  · exact ⟨h1, .inl h2⟩
  · exact ⟨h1, .inr ⟨g, cap, cur, a, Nat.le_trans hb b, c⟩⟩
theorem own_form {w : World} {base : Nat} {e : TypeId} {size : Nat} {v : Value} {n : Nat} {xs : List Value} (h : w.ownsRow base e size v n xs) (hn : 0 < n) : ∃ g cap, v = .slice (some ⟨g, 0, none⟩) n cap ∧ base ≤ g ∧ g < w.heap.size := by
  rcases h.2 with ⟨_, h0⟩ | ⟨g, cap, cur, rfl, hg, hh, _⟩
  · omega
  · exact ⟨g, cap, rfl, hg, blk_lt hh⟩
/-- An empty slice literal owns nothing. -/
theorem own_empty {w : World} {e : TypeId} (size : Nat) : (w.alloc (.cells #[] e)).ownsRow w.heap.size e size (.slice (some ⟨w.heap.size, 0, none⟩) 0 0) 0 [] :=
  ⟨by simp, .inr ⟨w.heap.size, 0, #[], rfl, Nat.le_refl _, blk_new w _, Nat.le_refl _, by unfold maxLen; omega, by simp, by simp⟩⟩
end Go.Proofs.YtlbnafnbjgageaaGreatDoor
