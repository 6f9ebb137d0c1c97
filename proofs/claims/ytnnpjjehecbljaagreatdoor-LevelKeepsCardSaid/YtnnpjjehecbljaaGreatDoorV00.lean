/-
  Texts of this seat, joined: FBase FMap FEnt.
-/
import Derived.WalkKit
import Derived.WalkSpells
import Derived.WalkLawsBesides
import Derived.Lib.Hide
import Derived.Laws.AppendOwn
import Derived.Laws.MakeOwn
import Derived.MapKept
import Derived.Carry
import Derived.Test.YtnnpjjehecbljaaGreatDoorRows
import Derived.KernelRfl
set_option linter.unusedSimpArgs false
set_option linter.unusedVariables false
namespace Go.Proofs.YtnnpjjehecbljaaGreatDoor
open Go.RowKit

/-- Of what there was in w nothing has turned in w' but the blocks of S. -/
structure Fr (S : List Nat) (w w' : World) : Prop where
  os : w'.os = w.os
  tape : w'.tape = w.tape
  output : w'.output = w.output
  size : w.heap.size ≤ w'.heap.size
  block : ∀ k, k < w.heap.size → k ∉ S → w'.heap[k]? = w.heap[k]?

/-- A block of cells, known whole. -/
def Blk (w : World) (r : Nat) (cs : Array Value) (t : TypeId) : Prop := w.heap[r]? = some (.cells cs t (0, 0))

theorem Fr.refl (S : List Nat) (w : World) : Fr S w w := ⟨rfl, rfl, rfl, Nat.le_refl _, fun _ _ _ => rfl⟩

theorem Fr.trans {S T : List Nat} {a b c : World} (h : Fr S a b) (k : Fr T b c) (hs : ∀ x, x ∈ T → x ∈ S ∨ a.heap.size ≤ x) : Fr S a c :=
  ⟨k.os.trans h.os, k.tape.trans h.tape, k.output.trans h.output, Nat.le_trans h.size k.size, fun i hi hn =>
    (k.block i (Nat.lt_of_lt_of_le hi h.size) (fun hT => by rcases hs i hT with h1 | h1; exact hn h1; omega)).trans (h.block i hi hn)⟩

theorem Fr.trans0 {S : List Nat} {a b c : World} (h : Fr S a b) (k : Fr [] b c) : Fr S a c := h.trans k (fun _ hx => by cases hx)
theorem Fr.trans1 {S : List Nat} {a b c : World} (h : Fr S a b) (k : Fr S b c) : Fr S a c := h.trans k (fun _ hx => .inl hx)

theorem Fr.wide {S T : List Nat} {a b : World} (h : Fr S a b) (hs : ∀ x, x ∈ S → x ∈ T) : Fr T a b :=
  ⟨h.os, h.tape, h.output, h.size, fun i hi hn => h.block i hi (fun hT => hn (hs i hT))⟩

theorem Fr.wide0 {S : List Nat} {a b : World} (h : Fr [] a b) : Fr S a b := h.wide (fun _ hx => by cases hx)

/-- Blocks that are new are not owed. -/
theorem Fr.shed {S : List Nat} {a b : World} (h : Fr S a b) (hs : ∀ x, x ∈ S → a.heap.size ≤ x) : Fr [] a b :=
  ⟨h.os, h.tape, h.output, h.size, fun i hi _ => h.block i hi (fun hT => by have := hs i hT; omega)⟩

theorem Fr.drew {S : List Nat} {a w : World} (h : Fr S a w) : Fr S a w.drew := ⟨h.os, h.tape, h.output, h.size, h.block⟩
theorem Fr.drewN {S : List Nat} {a w : World} (h : Fr S a w) (n : Nat) : Fr S a (w.drewN n) := ⟨h.os, h.tape, h.output, h.size, h.block⟩

theorem Fr.alloc {S : List Nat} {a w : World} (h : Fr S a w) (o : Obj) : Fr S a (w.alloc o) :=
  h.trans0 ⟨rfl, rfl, rfl, by simp, fun k hk _ => Below.heap_alloc _ _ _ hk⟩

theorem Fr.setCell {S : List Nat} {a w : World} (h : Fr S a w) {p : Addr} (hp : p.block ∈ S ∨ a.heap.size ≤ p.block) (u : Value) : Fr S a (w.setCell p u) :=
  h.trans (T := [p.block]) ⟨rfl, rfl, rfl, by simp [World.setCell], fun k _ hn => Below.heap_setCell _ _ _ _ (by simpa using hn)⟩ (fun x hx => by simp at hx; subst hx; exact hp)

theorem Fr.below {w w' : World} (h : Fr [] w w') : Below w.heap.size w w' := ⟨h.os, h.tape, h.output, h.size, fun k hk => h.block k hk (by simp)⟩

theorem Fr.ofBelow {w w' : World} (h : Below w.heap.size w w') : Fr [] w w' := ⟨h.os, h.tape, h.output, h.size, fun k hk _ => h.block k hk⟩

theorem Fr.ofGrown {w w' : World} {row : Option Nat} (h : w.grownBy w' row) : Fr row.toList w w' :=
  ⟨h.os, h.tape, h.output, h.size, fun k hk hn => h.block k hk (fun e => hn (by rw [← e]; simp))⟩

theorem blk_lt {w : World} {r : Nat} {o : Obj} (h : w.heap[r]? = some o) : r < w.heap.size := by
  rcases Nat.lt_or_ge r w.heap.size with h1 | h1
  · exact h1
  · rw [Array.getElem?_eq_none h1] at h; cases h

theorem Fr.obj {S : List Nat} {w w' : World} (h : Fr S w w') {r : Nat} {o : Obj} (hb : w.heap[r]? = some o) (hn : r ∉ S) : w'.heap[r]? = some o :=
  (h.block r (blk_lt hb) hn).trans hb

theorem Blk.fr {S : List Nat} {w w' : World} {r : Nat} {cs : Array Value} {t : TypeId} (hb : Blk w r cs t) (h : Fr S w w') (hn : r ∉ S) : Blk w' r cs t := h.obj hb hn
theorem Blk.fr0 {w w' : World} {r : Nat} {cs : Array Value} {t : TypeId} (hb : Blk w r cs t) (h : Fr [] w w') : Blk w' r cs t := h.obj hb (by simp)
theorem Blk.lt {w : World} {r : Nat} {cs : Array Value} {t : TypeId} (hb : Blk w r cs t) : r < w.heap.size := blk_lt hb

theorem Blk.cell {w : World} {r : Nat} {cs : Array Value} {t : TypeId} (h : Blk w r cs t) (i : Nat) : w.cell? ⟨r, i, none⟩ = cs[i]? := by
  unfold Blk at h; simp [World.cell?, h]
theorem Blk.cellAt {w : World} {r : Nat} {cs : Array Value} {t : TypeId} (h : Blk w r cs t) {i : Nat} {v : Value} (hv : cs[i]? = some v) : w.cell? ⟨r, i, none⟩ = some v := (h.cell i).trans hv
theorem Blk.froz {w : World} {r : Nat} {cs : Array Value} {t : TypeId} (h : Blk w r cs t) (i : Nat) : w.frozen? ⟨r, i, none⟩ = false := by
  unfold Blk at h; simp [World.frozen?, h]

theorem Blk.new (w : World) (cs : Array Value) (t : TypeId) : Blk (w.alloc (.cells cs t)) w.heap.size cs t := by
  show (w.heap.push _)[w.heap.size]? = _; simp
theorem Blk.alloc {w : World} {r : Nat} {cs : Array Value} {t : TypeId} (h : Blk w r cs t) (o : Obj) : Blk (w.alloc o) r cs t :=
  (Below.heap_alloc w o r h.lt).trans h
theorem Blk.drew {w : World} {r : Nat} {cs : Array Value} {t : TypeId} (h : Blk w r cs t) : Blk w.drew r cs t := h
theorem Blk.drewN {w : World} {r : Nat} {cs : Array Value} {t : TypeId} (h : Blk w r cs t) (n : Nat) : Blk (w.drewN n) r cs t := h
theorem Blk.set {w : World} {r : Nat} {cs : Array Value} {t : TypeId} (h : Blk w r cs t) (i : Nat) (v : Value) : Blk (w.setCell ⟨r, i, none⟩ v) r (cs.setIfInBounds i v) t := by
  unfold Blk at *
  simp [World.setCell, Array.getElem?_modify, h]
theorem Blk.far {w : World} {r : Nat} {cs : Array Value} {t : TypeId} (h : Blk w r cs t) {p : Addr} (hp : r ≠ p.block) (v : Value) : Blk (w.setCell p v) r cs t :=
  (Below.heap_setCell w p v r hp).trans h

/-- One operation by its run. -/
theorem wpList_run {P : Program} {ops : Array Oper} {Q : Exit → Act → World → Prop} {rest : List Oper} {o : Oper} {a : Act} {w w1 : World} {v : Value} (hg : o.guard = none)
    (hrun : (execOp a.eval o).run P w = .ok (.value v) w1) (h : wpList P ops Q rest (a.put o.dst v) w1) : wpList P ops Q (o :: rest) a w :=
  wpList_plain hg fun K hK => by
    unfold Oper.wp
    rw [hrun]
    exact hK _ _ h

/-- Bytes that a call laid: the first ones are those of s. -/
def Byt (w : World) (g : Nat) (s : ByteArray) (e : TypeId) : Prop :=
  ∃ (C : Array Value) (fr : Nat × Nat), w.heap[g]? = some (.cells C e fr) ∧ C.size ≤ fr.1 ∧ ∀ j, j < s.size → C[j]? = some (.int .u8 ((s.data.toList.getD j 0).toNat : Int))

theorem Byt.fr {S : List Nat} {w w' : World} {g : Nat} {s : ByteArray} {e : TypeId} (hb : Byt w g s e) (h : Fr S w w') (hn : g ∉ S) : Byt w' g s e := by
  obtain ⟨C, fr, h1, h2⟩ := hb
  exact ⟨C, fr, h.obj h1 hn, h2⟩

theorem Byt.cell {w : World} {g : Nat} {s : ByteArray} {e : TypeId} (h : Byt w g s e) {j : Nat} (hj : j < s.size) : w.cell? ⟨g, j, none⟩ = some (.int .u8 ((s.data.toList.getD j 0).toNat : Int)) := by
  obtain ⟨C, fr, h1, h2, h3⟩ := h
  simp only [World.cell?, h1]
  simpa using h3 j hj

theorem Byt.froz {w : World} {g : Nat} {s : ByteArray} {e : TypeId} (h : Byt w g s e) {j : Nat} (hj : j < s.size) : w.frozen? ⟨g, j, none⟩ = false := by
  obtain ⟨C, fr, h1, h2, h3⟩ := h
  have h4 : j < C.size := by
    rcases Nat.lt_or_ge j C.size with h5 | h5
    · exact h5
    · have := h3 j hj; rw [Array.getElem?_eq_none h5] at this; cases this
  simp only [World.frozen?, h1, Bool.and_eq_false_iff, decide_eq_false_iff_not]
  left; omega

/-- Each place of bytes holds a byte. -/
def Byts (w : World) (g n : Nat) : Prop := ∀ j, j < n → ∃ x : UInt8, w.cell? ⟨g, j, none⟩ = some (.int .u8 (x.toNat : Int))

theorem Byt.some {w : World} {g : Nat} {s : ByteArray} {e : TypeId} (h : Byt w g s e) : Byts w g s.size := fun j hj => ⟨_, h.cell hj⟩

theorem Byts.list {w : World} {g : Nat} : ∀ {n : Nat}, Byts w g n → ∃ l : List UInt8, l.length = n ∧ ∀ j (hj : j < l.length), w.cell? ⟨g, j, none⟩ = some (.int .u8 (l[j].toNat : Int)) := by
  intro n
  induction n with
  | zero => intro _; exact ⟨[], rfl, fun j hj => by simp at hj⟩
  | succ n ih =>
    intro h
    obtain ⟨l, h1, h2⟩ := ih (fun j hj => h j (by omega))
    obtain ⟨x, hx⟩ := h n (by omega)
    refine ⟨l ++ [x], by simp [h1], fun j hj => ?_⟩
    rw [List.getElem_append]
    split
    · rename_i h3; exact h2 j h3
    · rename_i h3
      have : j = n := by simp at hj; omega
      subst this
      simpa [h1] using hx

theorem Byts.set {w : World} {g n : Nat} (h : Byts w g n) (k : Nat) (q : Int) (h0 : 0 ≤ q) (h1 : q ≤ 255) : Byts (w.setCell ⟨g, k, none⟩ (.int .u8 q)) g n := by
  intro j hj
  obtain ⟨x, hx⟩ := h j hj
  by_cases e : k = j
  · subst e
    refine ⟨UInt8.ofNat q.toNat, ?_⟩
    have hb : ((UInt8.ofNat q.toNat).toNat : Int) = q := by simp; omega
    rw [hb]
    unfold World.cell? at hx ⊢
    cases ho : w.heap[g]? with
    | none => simp [ho] at hx
    | some o =>
      cases o with
      | cells c t fr =>
        simp [ho] at hx
        have hk : k < c.size := by
          rcases Nat.lt_or_ge k c.size with h5 | h5
          · exact h5
          · rw [Array.getElem?_eq_none h5] at hx; cases hx
        simp [World.setCell, Array.getElem?_modify, ho, hk]
      | _ => simp [ho] at hx
  · refine ⟨x, ?_⟩
    rw [← hx]
    unfold World.cell?
    cases ho : w.heap[g]? with
    | none => simp [World.setCell, Array.getElem?_modify, ho]
    | some o => cases o <;> simp [World.setCell, Array.getElem?_modify, ho, e]

/-- 'string(b)' of bytes that are known place by place. -/
theorem Byts.str {P : Program} {w : World} {g n : Nat} (h : Byts w g n) {src dst e : TypeId} (hs : P.underlying src = some (.slice e)) (he : P.underlying e = some (.int .u8)) (hd : P.underlying dst = some .string) (cap : Nat) :
    ∃ l : List UInt8, l.length = n ∧ (convert src dst (.slice (Option.some ⟨g, 0, none⟩) n cap)).run P w = .ok (.string ⟨l.toArray⟩) w := by
  obtain ⟨l, h1, h2⟩ := h.list
  refine ⟨l, h1, ?_⟩
  have := run_convert_bytes_back (P := P) w src dst e ⟨g, 0, none⟩ cap l hs he hd (fun j hj => by
    rw [← h2 j hj]
    unfold Addr.add
    split
    · subst j; rfl
    · simp)
  rw [h1] at this
  exact this

theorem bytesRow_get (s : ByteArray) (cap j : Nat) (hj : j < s.size) : (bytesRow s cap)[j]? = some (.int .u8 ((s.data.toList.getD j 0).toNat : Int)) := by
  have hj' : j < s.data.size := hj
  unfold bytesRow
  rw [Array.getElem?_append_left (by simpa using hj')]
  rw [Array.getElem?_map, Array.getElem?_eq_getElem hj', List.getD_eq_getElem?_getD, Array.getElem?_toList, Array.getElem?_eq_getElem hj']
  rfl

/-- '[]byte(s)'. -/
theorem wpList_bytes {P : Program} {ops : Array Oper} {Q : Exit → Act → World → Prop} {rest : List Oper} {a : Act} {w : World} {d : Option Tmp} {ty : TypeId} {pos : String} {af : Array Edge}
    (src dst e : TypeId) (x : Operand) (hs : P.underlying src = some .string) (hd : P.underlying dst = some (.slice e)) (he : P.underlying e = some (.int .u8)) (s : ByteArray) (hx : a.eval x = .string s)
    (h : ∀ g cap w1, Hid (g = w.heap.size) → Hid (Byt w1 g s e) → Hid (Fr [] w w1) → wpList P ops Q rest (a.put d (.slice (some ⟨g, 0, none⟩) s.size cap)) w1) :
    wpList P ops Q (⟨d, .convert src dst x, ty, pos, af, none⟩ :: rest) a w := by
  have hrun := run_bytes_of_string (P := P) w src dst e s hs hd he
  refine wpList_run rfl (v := .slice (some ⟨w.heap.size, 0, none⟩) s.size (grownCap w s.size 0 e)) (w1 := w.drew.alloc (.cells (bytesRow s (grownCap w s.size 0 e)) e ((bytesRow s (grownCap w s.size 0 e)).size, (bytesRow s (grownCap w s.size 0 e)).size + 1))) ?_ ?_
  · generalize a.eval = ρ at hx
    simp [execOp, hx, hrun, go_sem]
  · refine h _ _ _ rfl ?_ ?_
    · refine ⟨bytesRow s (grownCap w s.size 0 e), ((bytesRow s (grownCap w s.size 0 e)).size, (bytesRow s (grownCap w s.size 0 e)).size + 1), ?_, Nat.le_refl _, fun j hj => bytesRow_get s _ j hj⟩
      show (w.heap.push _)[w.heap.size]? = _
      simp
    · exact ((Fr.refl [] w).drew).alloc _

/-- min and max of two numbers, as one word. -/
def mnI (x y : Int) : Int := if y < x then y else x
def mxI (x y : Int) : Int := if x < y then y else x
theorem mnI_le (x y : Int) : mnI x y ≤ x ∧ mnI x y ≤ y ∧ (mnI x y = x ∨ mnI x y = y) := by unfold mnI; split <;> omega
theorem mxI_le (x y : Int) : x ≤ mxI x y ∧ y ≤ mxI x y ∧ (mxI x y = x ∨ mxI x y = y) := by unfold mxI; split <;> omega
theorem mnI_nat (x y : Nat) : mnI (x : Int) (y : Int) = ((min x y : Nat) : Int) := by unfold mnI; split <;> omega
theorem mxI_nat (x y : Nat) : mxI (x : Int) (y : Int) = ((max x y : Nat) : Int) := by unfold mxI; split <;> omega
@[go_sem] theorem min_two_int (ats : Array TypeId) (ty : TypeId) (k k' : IntKind) (x y : Int) : Builtin.min_ ats ty #[.int k x, .int k' y] = pure (.int k (mnI x y)) := by
  simp [Builtin.min_, Builtin.min2, mnI]
@[go_sem] theorem max_two_int (ats : Array TypeId) (ty : TypeId) (k k' : IntKind) (x y : Int) : Builtin.max_ ats ty #[.int k x, .int k' y] = pure (.int k (mxI x y)) := by
  simp [Builtin.max_, Builtin.max2, mxI]

/-- Facts on a slice type and its element type. -/
structure ElT (P : Program) (t e : TypeId) (z : Value) (size bytes : Nat) : Prop where
  ht : P.underlying t = some (.slice e)
  hi : ∃ i, P.info? e = some i ∧ i.zero = some z ∧ i.size = size ∧ i.bytes = bytes
  hz : z.cells.size = size
  hs : 0 < size

theorem ElT.mk' {P : Program} {t e : TypeId} {z : Value} {size bytes : Nat} (ht : P.underlying t = some (.slice e))
    (h : (P.info? e).map (fun i => (i.zero, i.size, i.bytes)) = some (some z, size, bytes)) (hz : z.cells.size = size) (hs : 0 < size) : ElT P t e z size bytes := by
  obtain ⟨i, h1, h2, h3, h4⟩ := info_parts h
  exact ⟨ht, ⟨i, h1, h2, h3, h4⟩, hz, hs⟩

/-- 'append' to a row that the call owns. -/
theorem wpList_app {P : Program} {ops : Array Oper} {Q : Exit → Act → World → Prop} {rest : List Oper} {a : Act} {w : World} {d : Option Tmp} {ty : TypeId} {pos : String} {af : Array Edge}
    {t e : TypeId} {z : Value} {size bytes : Nat} (hT : ElT P t e z size bytes) (s x : Operand) (base : Nat) (v : Value) (n : Nat) (xs : List Value) (hs : a.eval s = v) (hown : w.ownsRow base e size v n xs)
    (ad : Addr) (m c : Nat) (news : List Value) (hx : a.eval x = .slice (some ad) m c) (hl : news.length = m * size) (hnews : ∀ j u, news[j]? = some u → w.cell? (ad.add j) = some u) (h1 : ∀ u ∈ news, u.oneCell' = true)
    (h63 : n + m ≤ maxLen) (hbytes : (n + m) * bytes ≤ 140737488355328) (hbase : base ≤ w.heap.size)
    (h : ∀ v' w', Hid (w'.ownsRow base e size v' (n + m) (xs ++ news)) → Hid (Fr v.ownBlock.toList w w') → wpList P ops Q rest (a.put d v') w') :
    wpList P ops Q (⟨d, .call { callee := .builtin .append, args := #[s, x], argTypes := #[t, t] }, ty, pos, af, none⟩ :: rest) a w := by
  obtain ⟨i, hi1, hi2, hi3, hi4⟩ := hT.hi
  exact wpList_append_own w rfl s x t rfl base e i z size bytes hT.ht hi1 hi2 hi3 hi4 hT.hz hT.hs v n xs hs hown ad m c news hx hl hnews h1 h63 hbytes hbase
    (fun v' w' g1 g2 _ => h v' w' g1 (Fr.ofGrown g2))

theorem ownsRow_below {w : World} {base : Nat} {e : TypeId} {size : Nat} {v : Value} {n : Nat} {xs : List Value} (h : w.ownsRow base e size v n xs) : ∀ x, x ∈ v.ownBlock.toList → base ≤ x := by
  intro x hx
  have := h.lt x (by simpa using hx)
  exact this.1

theorem ownsRow_fr {S : List Nat} {w w' : World} {base : Nat} {e : TypeId} {size : Nat} {v : Value} {n : Nat} {xs : List Value} (h : w.ownsRow base e size v n xs) (hf : Fr S w w')
    (hn : ∀ x, x ∈ v.ownBlock.toList → x ∉ S) : w'.ownsRow base e size v n xs := by
  obtain ⟨h1, h2⟩ := h
  refine ⟨h1, ?_⟩
  rcases h2 with h2 | ⟨g, cap, cur, hv, hg, hh, r⟩
  · exact .inl h2
  · exact .inr ⟨g, cap, cur, hv, hg, hf.obj hh (hn g (by rw [hv]; simp [Value.ownBlock])), r⟩

/-- What was owned within a call from its first block on is owned from any smaller number on. -/
theorem ownsRow_base {w : World} {base base' : Nat} {e : TypeId} {size : Nat} {v : Value} {n : Nat} {xs : List Value} (h : w.ownsRow base e size v n xs) (hb : base' ≤ base) : w.ownsRow base' e size v n xs := by
  obtain ⟨h1, h2⟩ := h
  refine ⟨h1, ?_⟩
  rcases h2 with h2 | ⟨g, cap, cur, hv, hg, r⟩
  · exact .inl h2
  · exact .inr ⟨g, cap, cur, hv, by omega, r⟩

/-- 'string(b)' of bytes that a call owns. -/
theorem run_string_own {P : Program} {w : World} {base : Nat} {src dst e : TypeId} {v : Value} {l : List UInt8} (hs : P.underlying src = some (.slice e)) (he : P.underlying e = some (.int .u8)) (hd : P.underlying dst = some .string)
    {n : Nat} (h : w.ownsRow base e 1 v n (l.map (fun b => Value.int .u8 (b.toNat : Int)))) : (convert src dst v).run P w = .ok (.string ⟨l.toArray⟩) w := by
  have hln := h.1
  obtain ⟨h1, h2⟩ := h
  simp at hln
  rcases h2 with ⟨rfl, h2⟩ | ⟨g, cap, cur, rfl, hg, hh, r⟩
  · subst h2
    have : l = [] := List.eq_nil_of_length_eq_zero hln
    subst this
    rw [run_convert_bytes_string w src dst e _ _ _ hs he hd]
    rfl
  · subst hln
    refine run_convert_bytes_back w src dst e ⟨g, 0, none⟩ cap l hs he hd ?_
    intro j hj
    have := World.ownsRow.cells (w := w) (base := base) (e := e) (size := 1) (v := .slice (some ⟨g, 0, none⟩) l.length cap) (n := l.length) ⟨h1, .inr ⟨g, cap, cur, rfl, hg, hh, r⟩⟩ (g := g) rfl j (.int .u8 (l[j].toNat : Int)) (by simp [hj])
    exact this

/-- 'make([]T, 0, c)'. -/
theorem wpList_make0 {P : Program} {ops : Array Oper} {Q : Exit → Act → World → Prop} {rest : List Oper} {a : Act} {w : World} {d : Option Tmp} {ty : TypeId} {pos : String} {af : Array Edge}
    {t e : TypeId} {z : Value} {size bytes : Nat} (hT : ElT P t e z size bytes) (x y : Operand) (c : Nat) (kl kc : IntKind) (hx : a.eval x = .int kl 0) (hy : a.eval y = .int kc (c : Int))
    (base : Nat) (hbase : base ≤ w.heap.size) (hbytes : bytes * c ≤ 281474976710656) (h63 : c ≤ maxLen)
    (h : ∀ v w', Hid (w'.ownsRow base e size v 0 []) → Hid (Fr [] w w') → wpList P ops Q rest (a.put d v) w') :
    wpList P ops Q (⟨d, .makeSlice t x y, ty, pos, af, none⟩ :: rest) a w := by
  obtain ⟨i, hi1, hi2, hi3, hi4⟩ := hT.hi
  obtain ⟨w0, hmk, hown0, hg0⟩ := run_make_own (P := P) w base t e i z size hT.ht hi1 hi2 hi3 kl kc c (by rw [hi4]; exact hbytes) h63 hbase
  refine wpList_run rfl (v := .slice (some ⟨w.heap.size, 0, none⟩) 0 c) (w1 := w0) ?_ (h _ _ hown0 (Fr.ofGrown hg0))
  generalize a.eval = ρ at hx hy
  simp [execOp, hx, hy, hmk, go_sem]

theorem size_madeCells' (z : Array Value) (n : Nat) : (madeCells z n).size = n := size_madeCells z n

/-- 'make([]T, n)' at elements of one cell. -/
theorem wpList_makeN {P : Program} {ops : Array Oper} {Q : Exit → Act → World → Prop} {rest : List Oper} {a : Act} {w : World} {d : Option Tmp} {ty : TypeId} {pos : String} {af : Array Edge}
    {t e : TypeId} {z : Value} {bytes : Nat} (hT : ElT P t e z 1 bytes) (h1 : z.oneCell' = true) (x y : Operand) (c : Nat) (kl kc : IntKind) (hx : a.eval x = .int kl (c : Int)) (hy : a.eval y = .int kc (c : Int))
    (hbytes : bytes * c ≤ 281474976710656) (h63 : c ≤ maxLen)
    (h : ∀ g w', Hid (g = w.heap.size) → Hid (Blk w' g (Array.replicate c z) e) → Hid (Fr [] w w') → wpList P ops Q rest (a.put d (.slice (some ⟨g, 0, none⟩) c c)) w') :
    wpList P ops Q (⟨d, .makeSlice t x y, ty, pos, af, none⟩ :: rest) a w := by
  obtain ⟨i, hi1, hi2, hi3, hi4⟩ := hT.hi
  have h63' : (c : Int) ≤ 9223372036854775807 := by
    have h := h63
    simp [maxLen] at h
    omega
  have hb' : (i.bytes : Int) * (c : Int) ≤ 281474976710656 := by
    rw [hi4]
    have h : ((bytes * c : Nat) : Int) ≤ 281474976710656 := by omega
    rwa [Int.natCast_mul] at h
  have hr := run_make (P := P) w t e i z hT.ht hi1 hi2 kl kc c c (by omega) (Int.le_refl _) hb' h63'
  have hcells : madeCells z.cells ((c : Int).toNat * i.size) = Array.replicate c z := by
    have hz : z.cells = #[z] := by cases z <;> first | rfl | (simp [Value.oneCell'] at h1)
    rw [hz, hi3]
    apply Array.ext
    · simp [madeCells]
    · intro j _ _; simp [madeCells, Nat.mod_one]
  rw [hcells, Int.toNat_natCast] at hr
  refine wpList_run rfl (v := .slice (some ⟨w.heap.size, 0, none⟩) c c) (w1 := w.alloc (.cells (Array.replicate c z) e)) ?_ (h _ _ rfl (Blk.new _ _ _) ((Fr.refl _ _).alloc _))
  generalize a.eval = ρ at hx hy
  simp [execOp, hx, hy, hr, go_sem]

theorem ret_int {k : IntKind} {a b : Int} (h : a = b) : Ending.returned (.int k a) = .returned (.int k b) := by rw [h]
theorem ret_str {a b : ByteArray} (h : a = b) : Ending.returned (.string a) = .returned (.string b) := by rw [h]
theorem ret_bool {a b : Bool} (h : a = b) : Ending.returned (.bool a) = .returned (.bool b) := by rw [h]

end Go.Proofs.YtnnpjjehecbljaaGreatDoor

namespace Go.Proofs.YtnnpjjehecbljaaGreatDoor
open Go.RowKit

def imEnt (κ : IntKind) : Nat → List (Int × Value) → List MapEntry
  | _, [] => []
  | i, (k, v) :: r => { key := .int κ k, val := v, born := i } :: imEnt κ (i + 1) r
def imObj (κ : IntKind) (l : List (Int × Value)) : Obj := .map (imEnt κ 0 l).toArray l.length
def imLook (l : List (Int × Value)) (k : Int) : Option Value := (l.find? (fun p => k == p.1)).map (·.2)

theorem imEnt_snoc (κ : IntKind) (l : List (Int × Value)) (k : Int) (v : Value) : ∀ i, imEnt κ i (l ++ [(k, v)]) = imEnt κ i l ++ [{ key := .int κ k, val := v, born := i + l.length }] := by
  induction l with
  | nil => intro i; simp [imEnt]
  | cons p l ih => intro i; obtain ⟨a, b⟩ := p; simp [imEnt, ih]; omega

theorem findNow_im (κ κ' : IntKind) (k : Int) (l : List (Int × Value)) : ∀ i j, (Instr.findNow (.int κ') (.int κ k) (imEnt κ i l) j).map (fun o => o.map (·.2)) = some (imLook l k) := by
  induction l with
  | nil => intro i j; rfl
  | cons p l ih =>
    intro i j
    obtain ⟨a, b⟩ := p
    by_cases h : (k == a) = true
    · simp [imEnt, Instr.findNow, Instr.sameNow, h, imLook]
    · have h' : (k == a) = false := by simpa using h
      simp only [imEnt, Instr.findNow, Instr.sameNow, h', if_true]
      rw [ih]
      simp [imLook, h']

theorem wpList_skip {P : Program} {ops : Array Oper} {Q : Exit → Act → World → Prop} {rest : List Oper} {o : Oper} {a : Act} {w w1 : World} (hg : o.guard = none)
    (hrun : (execOp a.eval o).run P w = .ok .skip w1) (h : wpList P ops Q rest (a.put o.dst undef) w1) : wpList P ops Q (o :: rest) a w :=
  wpList_plain hg fun K hK => by
    unfold Oper.wp
    rw [hrun]
    exact hK _ _ h

section
variable {P : Program} {ops : Array Oper} {Q : Exit → Act → World → Prop} {rest : List Oper} {a : Act} {w : World} {d : Option Tmp} {ty : TypeId} {pos : String} {af : Array Edge}

theorem run_key (kt : TypeId) (κ : IntKind) (hk : P.underlying kt = some (.int κ)) (b : Bool) (k : Int) (w : World) : (Instr.checkKey b 10000 kt (.int κ k)).run P w = .ok () w :=
  MapKept.run_checkKey hk (by simp [MapKept.IsKey]) b 9999

theorem wpList_makeMap (t : TypeId) (κ : IntKind) (h : ∀ r w', Hid (r = w.heap.size) → Hid (w'.heap[r]? = some (imObj κ [])) → Hid (Fr [] w w') → wpList P ops Q rest (a.put d (.map (some r))) w') :
    wpList P ops Q (⟨d, .makeMap t none, ty, pos, af, none⟩ :: rest) a w := by
  have hr := run_makeMap (P := P) t w
  refine wpList_run rfl (v := .map (some w.heap.size)) (w1 := w.alloc (.map #[] 0)) ?_ (h _ _ rfl ?_ ((Fr.refl _ _).alloc _))
  · simp [execOp, hr, go_sem]
  · show (w.heap.push _)[w.heap.size]? = _
    simp [imObj, imEnt]

theorem wpList_insert (t kt et : TypeId) (ht : P.underlying t = some (.map kt et)) (κ : IntKind) (hk : P.underlying kt = some (.int κ)) (m x y : Operand) (r : Nat) (k : Int) (v : Value) (l : List (Int × Value))
    (hm : a.eval m = .map (some r)) (hx : a.eval x = .int κ k) (hy : a.eval y = v) (hb : Hid (w.heap[r]? = some (imObj κ l))) (hl : imLook l k = none)
    (h : ∀ w', Hid (w'.heap[r]? = some (imObj κ (l ++ [(k, v)]))) → Hid (Fr [r] w w') → wpList P ops Q rest (a.put d undef) w') :
    wpList P ops Q (⟨d, .insert t m x y, ty, pos, af, none⟩ :: rest) a w := by
  have hrun : (Instr.mapUpdate t (.map (some r)) (.int κ k) v).run P w = .ok () { w with heap := w.heap.setIfInBounds r (imObj κ (l ++ [(k, v)])) } := by
    have hb' : w.heap[r]? = some (.map (imEnt κ 0 l).toArray l.length) := hb.out
    have hf := findNow_im κ κ k l 0 0
    rw [hl] at hf
    have hf' : Instr.findNow (.int κ) (.int κ k) (imEnt κ 0 l) 0 = some none := by
      revert hf
      cases Instr.findNow (.int κ) (.int κ k) (imEnt κ 0 l) 0 with
      | none => simp
      | some o => cases o <;> simp
    have hc := fun b => run_key (P := P) kt κ hk b k w
    simp [Instr.mapUpdate, run_underlying ht, hc, run_underlying hk, Instr.findKey, getObj, setObj, Sem.run, hb', hf', Result.andThen, imObj, imEnt_snoc]
  refine wpList_skip rfl (w1 := { w with heap := w.heap.setIfInBounds r (imObj κ (l ++ [(k, v)])) }) ?_ (h _ ?_ ?_)
  · generalize a.eval = ρ at hm hx hy
    simp [execOp, hm, hx, hy, hrun, go_sem]
  · show (w.heap.setIfInBounds r _)[r]? = _
    rw [Array.getElem?_setIfInBounds]
    simp [blk_lt hb.out]
  · refine ⟨rfl, rfl, rfl, by simp, fun i _ hn => ?_⟩
    show (w.heap.setIfInBounds r _)[i]? = _
    rw [Array.getElem?_setIfInBounds, if_neg (by simpa using fun e => hn (by simp [e]))]

/-- The same, with what has become of the world since the map was made. -/
theorem wpList_insertF (t kt et : TypeId) (ht : P.underlying t = some (.map kt et)) (κ : IntKind) (hk : P.underlying kt = some (.int κ)) (m x y : Operand) (r : Nat) (k : Int) (v : Value) (l : List (Int × Value)) (wz : World)
    (hm : a.eval m = .map (some r)) (hx : a.eval x = .int κ k) (hy : a.eval y = v) (hb : Hid (w.heap[r]? = some (imObj κ l))) (hf : Hid (Fr [r] wz w)) (hl : imLook l k = none)
    (h : ∀ w', Hid (w'.heap[r]? = some (imObj κ (l ++ [(k, v)]))) → Hid (Fr [r] wz w') → wpList P ops Q rest (a.put d undef) w') :
    wpList P ops Q (⟨d, .insert t m x y, ty, pos, af, none⟩ :: rest) a w :=
  wpList_insert t kt et ht κ hk m x y r k v l hm hx hy hb hl (fun w' h1 h2 => h w' h1 (hf.out.trans1 h2.out))

theorem run_look (t kt et : TypeId) (ht : P.underlying t = some (.map kt et)) (κ : IntKind) (hk : P.underlying kt = some (.int κ)) (z : Value) (hz : ∀ w, (zeroValue et).run P w = .ok z w)
    (r : Nat) (k : Int) (l : List (Int × Value)) (hb : w.heap[r]? = some (imObj κ l)) (ok : Bool) :
    (Instr.lookup t (.map (some r)) (.int κ k) ok).run P w = .ok (if ok then .tuple #[(imLook l k).getD z, .bool (imLook l k).isSome] else (imLook l k).getD z) w := by
  have hb' : w.heap[r]? = some (.map (imEnt κ 0 l).toArray l.length) := hb
  have hf := findNow_im κ κ k l 0 0
  have hc := fun b => run_key (P := P) kt κ hk b k w
  cases hn : Instr.findNow (.int κ) (.int κ k) (imEnt κ 0 l) 0 with
  | none => rw [hn] at hf; simp at hf
  | some o =>
    rw [hn] at hf
    simp only [Option.map_some, Option.some.injEq] at hf
    rw [← hf]
    cases o with
    | none => simp [Instr.lookup, run_underlying ht, hc, run_underlying hk, Instr.findKey, getObj, Sem.run, hb', hn, Result.andThen, hz]
    | some p => simp [Instr.lookup, run_underlying ht, hc, run_underlying hk, Instr.findKey, getObj, Sem.run, hb', hn, Result.andThen]

theorem wpList_look (t kt et : TypeId) (ht : P.underlying t = some (.map kt et)) (κ : IntKind) (hk : P.underlying kt = some (.int κ)) (z : Value) (hz : ∀ w, (zeroValue et).run P w = .ok z w) (m x : Operand) (r : Nat) (k : Int)
    (l : List (Int × Value)) (hm : a.eval m = .map (some r)) (hx : a.eval x = .int κ k) (hb : Hid (w.heap[r]? = some (imObj κ l))) (ok : Bool) (res : Option Value) (hres : imLook l k = res)
    (h : wpList P ops Q rest (a.put d (if ok then .tuple #[res.getD z, .bool res.isSome] else res.getD z)) w) :
    wpList P ops Q (⟨d, .lookup t m x ok, ty, pos, af, none⟩ :: rest) a w := by
  have hrun := run_look (w := w) t kt et ht κ hk z hz r k l hb.out ok
  rw [hres] at hrun
  refine wpList_run rfl ?_ h
  generalize a.eval = ρ at hm hx
  simp [execOp, hm, hx, hrun, go_sem]
end

end Go.Proofs.YtnnpjjehecbljaaGreatDoor

namespace Go.Proofs.YtnnpjjehecbljaaGreatDoor
open Go.RowKit

/-! ### entries and messages as data -/
structure Ent where
  term : Int
  index : Int
  kind : Int
  client : Int
  seq : Int
  block : Int
  many : Int
  node : Int
  level : Int
  data : ByteArray
  old : ByteArray

def Ent.cells (e : Ent) : Array Value := #[.int .u64 e.term, .int .u64 e.index, .int .i64 e.kind, .int .u64 e.client, .int .u64 e.seq, .int .u64 e.block, .int .u64 e.many, .int .i64 e.node, .int .i64 e.level, .string e.data, .string e.old]

def U64 (n : Int) : Prop := 0 ≤ n ∧ n < 18446744073709551616
structure Ent.Fits (e : Ent) : Prop where
  term : U64 e.term
  index : U64 e.index
  client : U64 e.client
  seq : U64 e.seq
  block : U64 e.block
  many : U64 e.many
  data : e.data.size ≤ maxLen
  old : e.old.size ≤ maxLen

/-- A slice that reads as these entries. -/
def Ents (w : World) (v : Value) (l : List Ent) : Prop :=
  (l = [] ∧ ∃ a c, v = .slice a 0 c) ∨
  ∃ b o c, v = .slice (some ⟨b, o, none⟩) l.length c ∧ b < w.heap.size ∧ ∀ j (hj : j < l.length) i, i < 11 → w.cell? ⟨b, o + j * 11 + i, none⟩ = l[j].cells[i]?

theorem Ents.fr {S : List Nat} {w w' : World} {v : Value} {l : List Ent} (h : Ents w v l) (hf : Fr S w w') (hn : ∀ b, v.ownBlock = some b → b ∉ S) : Ents w' v l := by
  rcases h with h | ⟨b, o, c, rfl, hb, h⟩
  · exact .inl h
  · refine .inr ⟨b, o, c, rfl, Nat.lt_of_lt_of_le hb hf.size, fun j hj i hi => ?_⟩
    rw [← h j hj i hi]
    exact World.cell?_of_block (w := w) (hf.block b hb (hn b rfl))
theorem Ents.fr0 {w w' : World} {v : Value} {l : List Ent} (h : Ents w v l) (hf : Fr [] w w') : Ents w' v l := h.fr hf (fun _ _ => by simp)

theorem strZero : ∀ w, (zeroValue 9).run Tryz.prog w = .ok (.string ⟨#[]⟩) w := fun _ => by kernel_rfl

def nodeB (n : Int) : Bool := decide (1 ≤ n) && decide (n ≤ 7)
def smallB (n : Int) : Bool := n / 4294967296 == 0

set_option maxHeartbeats 400000 in
theorem eNode (n : Int) (w : World) : Calls Tryz.prog 52 #[.int .i64 n] w fun e w' => e = .returned (.bool (nodeB n)) ∧ w = w' := by
  go_enter Tryz.func52, Tryz.ntmps52
  go_wp2
  all_goals go_ret
  all_goals refine ⟨?_, rfl⟩
  all_goals simp [nodeB, *]
  all_goals omega

set_option maxHeartbeats 400000 in
theorem eSmall (n : Int) (w : World) (_h0 : 0 ≤ n) (_h1 : n < 18446744073709551616) : Calls Tryz.prog 51 #[.int .u64 n] w fun e w' => e = .returned (.bool (smallB n)) ∧ w = w' := by
  go_enter Tryz.func51, Tryz.ntmps51
  go_wp2
  go_ret
  exact ⟨by simp [smallB], rfl⟩

def msgMayT : List (Int × Value) := [(1, .string ⟨#[105, 112]⟩), (2, .string ⟨#[121]⟩), (3, .string ⟨#[105, 112]⟩), (4, .string ⟨#[121]⟩), (5, .string ⟨#[105, 112, 116, 101, 107]⟩), (6, .string ⟨#[105, 121, 107]⟩), (7, .string ⟨#[105, 112, 115]⟩), (8, .string ⟨#[105]⟩), (9, .string ⟨#[107]⟩), (10, .string ⟨#[107]⟩)]
def msgMay (k : Int) : ByteArray × Bool :=
  if k = 1 then (⟨#[105, 112]⟩, true)
  else if k = 2 then (⟨#[121]⟩, true)
  else if k = 3 then (⟨#[105, 112]⟩, true)
  else if k = 4 then (⟨#[121]⟩, true)
  else if k = 5 then (⟨#[105, 112, 116, 101, 107]⟩, true)
  else if k = 6 then (⟨#[105, 121, 107]⟩, true)
  else if k = 7 then (⟨#[105, 112, 115]⟩, true)
  else if k = 8 then (⟨#[105]⟩, true)
  else if k = 9 then (⟨#[107]⟩, true)
  else if k = 10 then (⟨#[107]⟩, true)
  else (⟨#[]⟩, false)

theorem msgMay_look (k : Int) : imLook msgMayT k = if (msgMay k).2 = true then some (.string (msgMay k).1) else none := by
  by_cases h1 : k = 1
  · rw [h1]; rfl
  by_cases h2 : k = 2
  · rw [h2]; rfl
  by_cases h3 : k = 3
  · rw [h3]; rfl
  by_cases h4 : k = 4
  · rw [h4]; rfl
  by_cases h5 : k = 5
  · rw [h5]; rfl
  by_cases h6 : k = 6
  · rw [h6]; rfl
  by_cases h7 : k = 7
  · rw [h7]; rfl
  by_cases h8 : k = 8
  · rw [h8]; rfl
  by_cases h9 : k = 9
  · rw [h9]; rfl
  by_cases h10 : k = 10
  · rw [h10]; rfl
  simp [msgMay, msgMayT, imLook, h1, h2, h3, h4, h5, h6, h7, h8, h9, h10]

theorem msgMay_no (k : Int) (h : (msgMay k).2 = false) : (msgMay k).1 = ⟨#[]⟩ := by
  by_cases h1 : k = 1
  · rw [h1] at h; exact absurd h (by decide)
  by_cases h2 : k = 2
  · rw [h2] at h; exact absurd h (by decide)
  by_cases h3 : k = 3
  · rw [h3] at h; exact absurd h (by decide)
  by_cases h4 : k = 4
  · rw [h4] at h; exact absurd h (by decide)
  by_cases h5 : k = 5
  · rw [h5] at h; exact absurd h (by decide)
  by_cases h6 : k = 6
  · rw [h6] at h; exact absurd h (by decide)
  by_cases h7 : k = 7
  · rw [h7] at h; exact absurd h (by decide)
  by_cases h8 : k = 8
  · rw [h8] at h; exact absurd h (by decide)
  by_cases h9 : k = 9
  · rw [h9] at h; exact absurd h (by decide)
  by_cases h10 : k = 10
  · rw [h10] at h; exact absurd h (by decide)
  simp [msgMay, h1, h2, h3, h4, h5, h6, h7, h8, h9, h10]


def entMayT : List (Int × Value) := [(0, .string ⟨#[]⟩), (1, .string ⟨#[99, 98, 100]⟩), (2, .string ⟨#[99, 98, 109]⟩), (3, .string ⟨#[99, 109]⟩), (4, .string ⟨#[99]⟩), (5, .string ⟨#[110]⟩), (6, .string ⟨#[110]⟩), (7, .string ⟨#[110, 108]⟩), (8, .string ⟨#[]⟩), (9, .string ⟨#[]⟩), (10, .string ⟨#[]⟩), (11, .string ⟨#[99, 98, 100, 111]⟩)]
def entMay (k : Int) : ByteArray × Bool :=
  if k = 0 then (⟨#[]⟩, true)
  else if k = 1 then (⟨#[99, 98, 100]⟩, true)
  else if k = 2 then (⟨#[99, 98, 109]⟩, true)
  else if k = 3 then (⟨#[99, 109]⟩, true)
  else if k = 4 then (⟨#[99]⟩, true)
  else if k = 5 then (⟨#[110]⟩, true)
  else if k = 6 then (⟨#[110]⟩, true)
  else if k = 7 then (⟨#[110, 108]⟩, true)
  else if k = 8 then (⟨#[]⟩, true)
  else if k = 9 then (⟨#[]⟩, true)
  else if k = 10 then (⟨#[]⟩, true)
  else if k = 11 then (⟨#[99, 98, 100, 111]⟩, true)
  else (⟨#[]⟩, false)

theorem entMay_look (k : Int) : imLook entMayT k = if (entMay k).2 = true then some (.string (entMay k).1) else none := by
  by_cases h0 : k = 0
  · rw [h0]; rfl
  by_cases h1 : k = 1
  · rw [h1]; rfl
  by_cases h2 : k = 2
  · rw [h2]; rfl
  by_cases h3 : k = 3
  · rw [h3]; rfl
  by_cases h4 : k = 4
  · rw [h4]; rfl
  by_cases h5 : k = 5
  · rw [h5]; rfl
  by_cases h6 : k = 6
  · rw [h6]; rfl
  by_cases h7 : k = 7
  · rw [h7]; rfl
  by_cases h8 : k = 8
  · rw [h8]; rfl
  by_cases h9 : k = 9
  · rw [h9]; rfl
  by_cases h10 : k = 10
  · rw [h10]; rfl
  by_cases h11 : k = 11
  · rw [h11]; rfl
  simp [entMay, entMayT, imLook, h0, h1, h2, h3, h4, h5, h6, h7, h8, h9, h10, h11]

theorem entMay_no (k : Int) (h : (entMay k).2 = false) : (entMay k).1 = ⟨#[]⟩ := by
  by_cases h0 : k = 0
  · rw [h0] at h; exact absurd h (by decide)
  by_cases h1 : k = 1
  · rw [h1] at h; exact absurd h (by decide)
  by_cases h2 : k = 2
  · rw [h2] at h; exact absurd h (by decide)
  by_cases h3 : k = 3
  · rw [h3] at h; exact absurd h (by decide)
  by_cases h4 : k = 4
  · rw [h4] at h; exact absurd h (by decide)
  by_cases h5 : k = 5
  · rw [h5] at h; exact absurd h (by decide)
  by_cases h6 : k = 6
  · rw [h6] at h; exact absurd h (by decide)
  by_cases h7 : k = 7
  · rw [h7] at h; exact absurd h (by decide)
  by_cases h8 : k = 8
  · rw [h8] at h; exact absurd h (by decide)
  by_cases h9 : k = 9
  · rw [h9] at h; exact absurd h (by decide)
  by_cases h10 : k = 10
  · rw [h10] at h; exact absurd h (by decide)
  by_cases h11 : k = 11
  · rw [h11] at h; exact absurd h (by decide)
  simp [entMay, h0, h1, h2, h3, h4, h5, h6, h7, h8, h9, h10, h11]

set_option maxRecDepth 100000 in
set_option maxHeartbeats 2000000 in
theorem eFields (k : Int) (w : World) :
    Calls Tryz.prog 49 #[.int .i64 k] w fun e w' => e = .returned (.tuple #[.string (entMay k).1, .bool (entMay k).2]) ∧ Fr [] w w' := by
  have Hres := Lib.hid (entMay_look k)
  have HE := Lib.hid (entMay_no k)
  generalize entMay k = x at *
  obtain ⟨s, b⟩ := x
  cases b with
  | true =>
    have Hres' : Hid (imLook entMayT k = some (.string s)) := Hres
    clear Hres
    have Hres := Hres'
    clear Hres' HE
    go_enter Tryz.func49, Tryz.ntmps49
    go_wp2_with (first | (refine wpList_makeMap 108 .i64 ?_; intro m w0 HM HO F0; have HF : Hid (Fr [m] w0 w0) := Fr.refl _ _) | (refine wpList_insertF 108 3 9 Tryz.underlying108 .i64 Tryz.underlying3 (.tmp 7) _ _ _ _ _ _ _ rfl rfl rfl HO HF rfl ?_; clear HO HF; intro wn HO HF) | (refine wpList_look 108 3 9 Tryz.underlying108 .i64 Tryz.underlying3 (.string ⟨#[]⟩) strZero (.tmp 10) (.tmp 11) _ _ _ rfl rfl HO true _ Hres.out ?_))
    go_ret2
    exact ⟨rfl, (F0.out.trans HF.out (by have := HM.out; simp; omega))⟩
  | false =>
    have Hres' : Hid (imLook entMayT k = none) := Hres
    obtain rfl : s = ⟨#[]⟩ := HE.out rfl
    clear Hres HE
    have Hres := Hres'
    clear Hres'
    go_enter Tryz.func49, Tryz.ntmps49
    go_wp2_with (first | (refine wpList_makeMap 108 .i64 ?_; intro m w0 HM HO F0; have HF : Hid (Fr [m] w0 w0) := Fr.refl _ _) | (refine wpList_insertF 108 3 9 Tryz.underlying108 .i64 Tryz.underlying3 (.tmp 7) _ _ _ _ _ _ _ rfl rfl rfl HO HF rfl ?_; clear HO HF; intro wn HO HF) | (refine wpList_look 108 3 9 Tryz.underlying108 .i64 Tryz.underlying3 (.string ⟨#[]⟩) strZero (.tmp 10) (.tmp 11) _ _ _ rfl rfl HO true _ Hres.out ?_))
    go_ret2
    exact ⟨rfl, (F0.out.trans HF.out (by have := HM.out; simp; omega))⟩
end Go.Proofs.YtnnpjjehecbljaaGreatDoor
