/-
  Texts of this seat, joined: FBase FPlain FVar FFix FPut FRef2 FRef2b FLaw FMap FEnt.
-/
import Derived.WalkKit
import Derived.WalkSpells
import Derived.WalkLawsBesides
import Derived.Lib.Hide
import Derived.Laws.AppendOwn
import Derived.Laws.MakeOwn
import Derived.Laws.Bits64b
import Derived.Test.YthfaaoeecajkeaaDoorRows
import Derived.KernelRfl
import Derived.Deep.QuietTactic
import Derived.BigQuiet
import Derived.Deep.RegionHeld3
import Derived.IntWalk
import Derived.Lib.Strings
import Derived.MapKept
import Derived.Carry
set_option linter.unusedSimpArgs false
set_option linter.unusedVariables false
namespace Go.Proofs.YthfaaoeecajkeaaDoor
open Go.RowKit

/-- Of what there was in w nothing has turned in w' but the blocks of S. -/
structure Fr (S : List Nat) (w w' : World) : Prop where
  os : w'.os = w.os
  tape : w'.tape = w.tape
  output : w'.output = w.output
  size : w.heap.size ≤ w'.heap.size
  block : ∀ k, k < w.heap.size → k ∉ S → w'.heap[k]? = w.heap[k]?

/-- A block of cells, known whole. -/
def Blk (w : World) (r : Nat) (cs : Array Value) (t : TypeId) : Prop := w.heap[r]? = some (.cells cs t (0, 0))

theorem Fr.refl (S : List Nat) (w : World) : Fr S w w := ⟨rfl, rfl, rfl, Nat.le_refl _, fun _ _ _ => rfl⟩

theorem Fr.trans {S T : List Nat} {a b c : World} (h : Fr S a b) (k : Fr T b c) (hs : ∀ x, x ∈ T → x ∈ S ∨ a.heap.size ≤ x) : Fr S a c :=
  ⟨k.os.trans h.os, k.tape.trans h.tape, k.output.trans h.output, Nat.le_trans h.size k.size, fun i hi hn =>
    (k.block i (Nat.lt_of_lt_of_le hi h.size) (fun hT => by rcases hs i hT with h1 | h1; exact hn h1; omega)).trans (h.block i hi hn)⟩

theorem Fr.trans0 {S : List Nat} {a b c : World} (h : Fr S a b) (k : Fr [] b c) : Fr S a c := h.trans k (fun _ hx => by cases hx)
theorem Fr.trans1 {S : List Nat} {a b c : World} (h : Fr S a b) (k : Fr S b c) : Fr S a c := h.trans k (fun _ hx => .inl hx)

theorem Fr.wide {S T : List Nat} {a b : World} (h : Fr S a b) (hs : ∀ x, x ∈ S → x ∈ T) : Fr T a b :=
  ⟨h.os, h.tape, h.output, h.size, fun i hi hn => h.block i hi (fun hT => hn (hs i hT))⟩

theorem Fr.wide0 {S : List Nat} {a b : World} (h : Fr [] a b) : Fr S a b := h.wide (fun _ hx => by cases hx)

/-- Blocks that are new are not owed. -/
theorem Fr.shed {S : List Nat} {a b : World} (h : Fr S a b) (hs : ∀ x, x ∈ S → a.heap.size ≤ x) : Fr [] a b :=
  ⟨h.os, h.tape, h.output, h.size, fun i hi _ => h.block i hi (fun hT => by have := hs i hT; omega)⟩

theorem Fr.drew {S : List Nat} {a w : World} (h : Fr S a w) : Fr S a w.drew := ⟨h.os, h.tape, h.output, h.size, h.block⟩
theorem Fr.drewN {S : List Nat} {a w : World} (h : Fr S a w) (n : Nat) : Fr S a (w.drewN n) := ⟨h.os, h.tape, h.output, h.size, h.block⟩

theorem Fr.alloc {S : List Nat} {a w : World} (h : Fr S a w) (o : Obj) : Fr S a (w.alloc o) :=
  h.trans0 ⟨rfl, rfl, rfl, by simp, fun k hk _ => Below.heap_alloc _ _ _ hk⟩

theorem Fr.setCell {S : List Nat} {a w : World} (h : Fr S a w) {p : Addr} (hp : p.block ∈ S ∨ a.heap.size ≤ p.block) (u : Value) : Fr S a (w.setCell p u) :=
  h.trans (T := [p.block]) ⟨rfl, rfl, rfl, by simp [World.setCell], fun k _ hn => Below.heap_setCell _ _ _ _ (by simpa using hn)⟩ (fun x hx => by simp at hx; subst hx; exact hp)

theorem Fr.below {w w' : World} (h : Fr [] w w') : Below w.heap.size w w' := ⟨h.os, h.tape, h.output, h.size, fun k hk => h.block k hk (by simp)⟩

theorem Fr.ofBelow {w w' : World} (h : Below w.heap.size w w') : Fr [] w w' := ⟨h.os, h.tape, h.output, h.size, fun k hk _ => h.block k hk⟩

theorem Fr.ofGrown {w w' : World} {row : Option Nat} (h : w.grownBy w' row) : Fr row.toList w w' :=
  ⟨h.os, h.tape, h.output, h.size, fun k hk hn => h.block k hk (fun e => hn (by rw [← e]; simp))⟩

theorem blk_lt {w : World} {r : Nat} {o : Obj} (h : w.heap[r]? = some o) : r < w.heap.size := by
  rcases Nat.lt_or_ge r w.heap.size with h1 | h1
  · exact h1
  · rw [Array.getElem?_eq_none h1] at h; cases h

theorem Fr.obj {S : List Nat} {w w' : World} (h : Fr S w w') {r : Nat} {o : Obj} (hb : w.heap[r]? = some o) (hn : r ∉ S) : w'.heap[r]? = some o :=
  (h.block r (blk_lt hb) hn).trans hb

theorem Blk.fr {S : List Nat} {w w' : World} {r : Nat} {cs : Array Value} {t : TypeId} (hb : Blk w r cs t) (h : Fr S w w') (hn : r ∉ S) : Blk w' r cs t := h.obj hb hn
theorem Blk.fr0 {w w' : World} {r : Nat} {cs : Array Value} {t : TypeId} (hb : Blk w r cs t) (h : Fr [] w w') : Blk w' r cs t := h.obj hb (by simp)
theorem Blk.lt {w : World} {r : Nat} {cs : Array Value} {t : TypeId} (hb : Blk w r cs t) : r < w.heap.size := blk_lt hb

theorem Blk.cell {w : World} {r : Nat} {cs : Array Value} {t : TypeId} (h : Blk w r cs t) (i : Nat) : w.cell? ⟨r, i, none⟩ = cs[i]? := by
  unfold Blk at h; simp [World.cell?, h]
theorem Blk.cellAt {w : World} {r : Nat} {cs : Array Value} {t : TypeId} (h : Blk w r cs t) {i : Nat} {v : Value} (hv : cs[i]? = some v) : w.cell? ⟨r, i, none⟩ = some v := (h.cell i).trans hv
theorem Blk.froz {w : World} {r : Nat} {cs : Array Value} {t : TypeId} (h : Blk w r cs t) (i : Nat) : w.frozen? ⟨r, i, none⟩ = false := by
  unfold Blk at h; simp [World.frozen?, h]

theorem Blk.new (w : World) (cs : Array Value) (t : TypeId) : Blk (w.alloc (.cells cs t)) w.heap.size cs t := by
  show (w.heap.push _)[w.heap.size]? = _; simp
theorem Blk.alloc {w : World} {r : Nat} {cs : Array Value} {t : TypeId} (h : Blk w r cs t) (o : Obj) : Blk (w.alloc o) r cs t :=
  (Below.heap_alloc w o r h.lt).trans h
theorem Blk.drew {w : World} {r : Nat} {cs : Array Value} {t : TypeId} (h : Blk w r cs t) : Blk w.drew r cs t := h
theorem Blk.drewN {w : World} {r : Nat} {cs : Array Value} {t : TypeId} (h : Blk w r cs t) (n : Nat) : Blk (w.drewN n) r cs t := h
theorem Blk.set {w : World} {r : Nat} {cs : Array Value} {t : TypeId} (h : Blk w r cs t) (i : Nat) (v : Value) : Blk (w.setCell ⟨r, i, none⟩ v) r (cs.setIfInBounds i v) t := by
  unfold Blk at *
  simp [World.setCell, Array.getElem?_modify, h]
theorem Blk.far {w : World} {r : Nat} {cs : Array Value} {t : TypeId} (h : Blk w r cs t) {p : Addr} (hp : r ≠ p.block) (v : Value) : Blk (w.setCell p v) r cs t :=
  (Below.heap_setCell w p v r hp).trans h

/-- One operation by its run. -/
theorem wpList_run {P : Program} {ops : Array Oper} {Q : Exit → Act → World → Prop} {rest : List Oper} {o : Oper} {a : Act} {w w1 : World} {v : Value} (hg : o.guard = none)
    (hrun : (execOp a.eval o).run P w = .ok (.value v) w1) (h : wpList P ops Q rest (a.put o.dst v) w1) : wpList P ops Q (o :: rest) a w :=
  wpList_plain hg fun K hK => by
    unfold Oper.wp
    rw [hrun]
    exact hK _ _ h

/-- Bytes that a call laid: the first ones are those of s. -/
def Byt (w : World) (g : Nat) (s : ByteArray) (e : TypeId) : Prop :=
  ∃ (C : Array Value) (fr : Nat × Nat), w.heap[g]? = some (.cells C e fr) ∧ C.size ≤ fr.1 ∧ ∀ j, j < s.size → C[j]? = some (.int .u8 ((s.data.toList.getD j 0).toNat : Int))

theorem Byt.fr {S : List Nat} {w w' : World} {g : Nat} {s : ByteArray} {e : TypeId} (hb : Byt w g s e) (h : Fr S w w') (hn : g ∉ S) : Byt w' g s e := by
  obtain ⟨C, fr, h1, h2⟩ := hb
  exact ⟨C, fr, h.obj h1 hn, h2⟩

theorem Byt.cell {w : World} {g : Nat} {s : ByteArray} {e : TypeId} (h : Byt w g s e) {j : Nat} (hj : j < s.size) : w.cell? ⟨g, j, none⟩ = some (.int .u8 ((s.data.toList.getD j 0).toNat : Int)) := by
  obtain ⟨C, fr, h1, h2, h3⟩ := h
  simp only [World.cell?, h1]
  simpa using h3 j hj

theorem Byt.froz {w : World} {g : Nat} {s : ByteArray} {e : TypeId} (h : Byt w g s e) {j : Nat} (hj : j < s.size) : w.frozen? ⟨g, j, none⟩ = false := by
  obtain ⟨C, fr, h1, h2, h3⟩ := h
  have h4 : j < C.size := by
    rcases Nat.lt_or_ge j C.size with h5 | h5
    · exact h5
    · have := h3 j hj; rw [Array.getElem?_eq_none h5] at this; cases this
  simp only [World.frozen?, h1, Bool.and_eq_false_iff, decide_eq_false_iff_not]
  left; omega

/-- Each place of bytes holds a byte. -/
def Byts (w : World) (g n : Nat) : Prop := ∀ j, j < n → ∃ x : UInt8, w.cell? ⟨g, j, none⟩ = some (.int .u8 (x.toNat : Int))

theorem Byt.some {w : World} {g : Nat} {s : ByteArray} {e : TypeId} (h : Byt w g s e) : Byts w g s.size := fun j hj => ⟨_, h.cell hj⟩

theorem Byts.list {w : World} {g : Nat} : ∀ {n : Nat}, Byts w g n → ∃ l : List UInt8, l.length = n ∧ ∀ j (hj : j < l.length), w.cell? ⟨g, j, none⟩ = some (.int .u8 (l[j].toNat : Int)) := by
  intro n
  induction n with
  | zero => intro _; exact ⟨[], rfl, fun j hj => by simp at hj⟩
  | succ n ih =>
    intro h
    obtain ⟨l, h1, h2⟩ := ih (fun j hj => h j (by omega))
    obtain ⟨x, hx⟩ := h n (by omega)
    refine ⟨l ++ [x], by simp [h1], fun j hj => ?_⟩
    rw [List.getElem_append]
    split
    · rename_i h3; exact h2 j h3
    · rename_i h3
      have : j = n := by simp at hj; omega
      subst this
      simpa [h1] using hx

theorem Byts.set {w : World} {g n : Nat} (h : Byts w g n) (k : Nat) (q : Int) (h0 : 0 ≤ q) (h1 : q ≤ 255) : Byts (w.setCell ⟨g, k, none⟩ (.int .u8 q)) g n := by
  intro j hj
  obtain ⟨x, hx⟩ := h j hj
  by_cases e : k = j
  · subst e
    refine ⟨UInt8.ofNat q.toNat, ?_⟩
    have hb : ((UInt8.ofNat q.toNat).toNat : Int) = q := by simp; omega
    rw [hb]
    unfold World.cell? at hx ⊢
    cases ho : w.heap[g]? with
    | none => simp [ho] at hx
    | some o =>
      cases o with
      | cells c t fr =>
        simp [ho] at hx
        have hk : k < c.size := by
          rcases Nat.lt_or_ge k c.size with h5 | h5
          · exact h5
          · rw [Array.getElem?_eq_none h5] at hx; cases hx
        simp [World.setCell, Array.getElem?_modify, ho, hk]
      | _ => simp [ho] at hx
  · refine ⟨x, ?_⟩
    rw [← hx]
    unfold World.cell?
    cases ho : w.heap[g]? with
    | none => simp [World.setCell, Array.getElem?_modify, ho]
    | some o => cases o <;> simp [World.setCell, Array.getElem?_modify, ho, e]

/-- 'string(b)' of bytes that are known place by place. -/
theorem Byts.str {P : Program} {w : World} {g n : Nat} (h : Byts w g n) {src dst e : TypeId} (hs : P.underlying src = some (.slice e)) (he : P.underlying e = some (.int .u8)) (hd : P.underlying dst = some .string) (cap : Nat) :
    ∃ l : List UInt8, l.length = n ∧ (convert src dst (.slice (Option.some ⟨g, 0, none⟩) n cap)).run P w = .ok (.string ⟨l.toArray⟩) w := by
  obtain ⟨l, h1, h2⟩ := h.list
  refine ⟨l, h1, ?_⟩
  have := run_convert_bytes_back (P := P) w src dst e ⟨g, 0, none⟩ cap l hs he hd (fun j hj => by
    rw [← h2 j hj]
    unfold Addr.add
    split
    · subst j; rfl
    · simp)
  rw [h1] at this
  exact this

theorem bytesRow_get (s : ByteArray) (cap j : Nat) (hj : j < s.size) : (bytesRow s cap)[j]? = some (.int .u8 ((s.data.toList.getD j 0).toNat : Int)) := by
  have hj' : j < s.data.size := hj
  unfold bytesRow
  rw [Array.getElem?_append_left (by simpa using hj')]
  rw [Array.getElem?_map, Array.getElem?_eq_getElem hj', List.getD_eq_getElem?_getD, Array.getElem?_toList, Array.getElem?_eq_getElem hj']
  rfl

/-- '[]byte(s)'. -/
theorem wpList_bytes {P : Program} {ops : Array Oper} {Q : Exit → Act → World → Prop} {rest : List Oper} {a : Act} {w : World} {d : Option Tmp} {ty : TypeId} {pos : String} {af : Array Edge}
    (src dst e : TypeId) (x : Operand) (hs : P.underlying src = some .string) (hd : P.underlying dst = some (.slice e)) (he : P.underlying e = some (.int .u8)) (s : ByteArray) (hx : a.eval x = .string s)
    (h : ∀ g cap w1, Hid (g = w.heap.size) → Hid (Byt w1 g s e) → Hid (Fr [] w w1) → wpList P ops Q rest (a.put d (.slice (some ⟨g, 0, none⟩) s.size cap)) w1) :
    wpList P ops Q (⟨d, .convert src dst x, ty, pos, af, none⟩ :: rest) a w := by
  have hrun := run_bytes_of_string (P := P) w src dst e s hs hd he
  refine wpList_run rfl (v := .slice (some ⟨w.heap.size, 0, none⟩) s.size (grownCap w s.size 0 e)) (w1 := w.drew.alloc (.cells (bytesRow s (grownCap w s.size 0 e)) e ((bytesRow s (grownCap w s.size 0 e)).size, (bytesRow s (grownCap w s.size 0 e)).size + 1))) ?_ ?_
  · generalize a.eval = ρ at hx
    simp [execOp, hx, hrun, go_sem]
  · refine h _ _ _ rfl ?_ ?_
    · refine ⟨bytesRow s (grownCap w s.size 0 e), ((bytesRow s (grownCap w s.size 0 e)).size, (bytesRow s (grownCap w s.size 0 e)).size + 1), ?_, Nat.le_refl _, fun j hj => bytesRow_get s _ j hj⟩
      show (w.heap.push _)[w.heap.size]? = _
      simp
    · exact ((Fr.refl [] w).drew).alloc _

/-- min and max of two numbers, as one word. -/
def mnI (x y : Int) : Int := if y < x then y else x
def mxI (x y : Int) : Int := if x < y then y else x
theorem mnI_le (x y : Int) : mnI x y ≤ x ∧ mnI x y ≤ y ∧ (mnI x y = x ∨ mnI x y = y) := by unfold mnI; split <;> omega
theorem mxI_le (x y : Int) : x ≤ mxI x y ∧ y ≤ mxI x y ∧ (mxI x y = x ∨ mxI x y = y) := by unfold mxI; split <;> omega
theorem mnI_nat (x y : Nat) : mnI (x : Int) (y : Int) = ((min x y : Nat) : Int) := by unfold mnI; split <;> omega
theorem mxI_nat (x y : Nat) : mxI (x : Int) (y : Int) = ((max x y : Nat) : Int) := by unfold mxI; split <;> omega
@[go_sem] theorem min_two_int (ats : Array TypeId) (ty : TypeId) (k k' : IntKind) (x y : Int) : Builtin.min_ ats ty #[.int k x, .int k' y] = pure (.int k (mnI x y)) := by
  simp [Builtin.min_, Builtin.min2, mnI]
@[go_sem] theorem max_two_int (ats : Array TypeId) (ty : TypeId) (k k' : IntKind) (x y : Int) : Builtin.max_ ats ty #[.int k x, .int k' y] = pure (.int k (mxI x y)) := by
  simp [Builtin.max_, Builtin.max2, mxI]

/-- Facts on a slice type and its element type. -/
structure ElT (P : Program) (t e : TypeId) (z : Value) (size bytes : Nat) : Prop where
  ht : P.underlying t = some (.slice e)
  hi : ∃ i, P.info? e = some i ∧ i.zero = some z ∧ i.size = size ∧ i.bytes = bytes
  hz : z.cells.size = size
  hs : 0 < size

theorem ElT.mk' {P : Program} {t e : TypeId} {z : Value} {size bytes : Nat} (ht : P.underlying t = some (.slice e))
    (h : (P.info? e).map (fun i => (i.zero, i.size, i.bytes)) = some (some z, size, bytes)) (hz : z.cells.size = size) (hs : 0 < size) : ElT P t e z size bytes := by
  obtain ⟨i, h1, h2, h3, h4⟩ := info_parts h
  exact ⟨ht, ⟨i, h1, h2, h3, h4⟩, hz, hs⟩

/-- 'append' to a row that the call owns. -/
theorem wpList_app {P : Program} {ops : Array Oper} {Q : Exit → Act → World → Prop} {rest : List Oper} {a : Act} {w : World} {d : Option Tmp} {ty : TypeId} {pos : String} {af : Array Edge}
    {t e : TypeId} {z : Value} {size bytes : Nat} (hT : ElT P t e z size bytes) (s x : Operand) (base : Nat) (v : Value) (n : Nat) (xs : List Value) (hs : a.eval s = v) (hown : w.ownsRow base e size v n xs)
    (ad : Addr) (m c : Nat) (news : List Value) (hx : a.eval x = .slice (some ad) m c) (hl : news.length = m * size) (hnews : ∀ j u, news[j]? = some u → w.cell? (ad.add j) = some u) (h1 : ∀ u ∈ news, u.oneCell' = true)
    (h63 : n + m ≤ maxLen) (hbytes : (n + m) * bytes ≤ 140737488355328) (hbase : base ≤ w.heap.size)
    (h : ∀ v' w', Hid (w'.ownsRow base e size v' (n + m) (xs ++ news)) → Hid (Fr v.ownBlock.toList w w') → wpList P ops Q rest (a.put d v') w') :
    wpList P ops Q (⟨d, .call { callee := .builtin .append, args := #[s, x], argTypes := #[t, t] }, ty, pos, af, none⟩ :: rest) a w := by
  obtain ⟨i, hi1, hi2, hi3, hi4⟩ := hT.hi
  exact wpList_append_own w rfl s x t rfl base e i z size bytes hT.ht hi1 hi2 hi3 hi4 hT.hz hT.hs v n xs hs hown ad m c news hx hl hnews h1 h63 hbytes hbase
    (fun v' w' g1 g2 _ => h v' w' g1 (Fr.ofGrown g2))

theorem ownsRow_below {w : World} {base : Nat} {e : TypeId} {size : Nat} {v : Value} {n : Nat} {xs : List Value} (h : w.ownsRow base e size v n xs) : ∀ x, x ∈ v.ownBlock.toList → base ≤ x := by
  intro x hx
  have := h.lt x (by simpa using hx)
  exact this.1

theorem ownsRow_fr {S : List Nat} {w w' : World} {base : Nat} {e : TypeId} {size : Nat} {v : Value} {n : Nat} {xs : List Value} (h : w.ownsRow base e size v n xs) (hf : Fr S w w')
    (hn : ∀ x, x ∈ v.ownBlock.toList → x ∉ S) : w'.ownsRow base e size v n xs := by
  obtain ⟨h1, h2⟩ := h
  refine ⟨h1, ?_⟩
  rcases h2 with h2 | ⟨g, cap, cur, hv, hg, hh, r⟩
  · exact .inl h2
  · exact .inr ⟨g, cap, cur, hv, hg, hf.obj hh (hn g (by rw [hv]; simp [Value.ownBlock])), r⟩

/-- What was owned within a call from its first block on is owned from any smaller number on. -/
theorem ownsRow_base {w : World} {base base' : Nat} {e : TypeId} {size : Nat} {v : Value} {n : Nat} {xs : List Value} (h : w.ownsRow base e size v n xs) (hb : base' ≤ base) : w.ownsRow base' e size v n xs := by
  obtain ⟨h1, h2⟩ := h
  refine ⟨h1, ?_⟩
  rcases h2 with h2 | ⟨g, cap, cur, hv, hg, r⟩
  · exact .inl h2
  · exact .inr ⟨g, cap, cur, hv, by omega, r⟩

/-- 'string(b)' of bytes that a call owns. -/
theorem run_string_own {P : Program} {w : World} {base : Nat} {src dst e : TypeId} {v : Value} {l : List UInt8} (hs : P.underlying src = some (.slice e)) (he : P.underlying e = some (.int .u8)) (hd : P.underlying dst = some .string)
    {n : Nat} (h : w.ownsRow base e 1 v n (l.map (fun b => Value.int .u8 (b.toNat : Int)))) : (convert src dst v).run P w = .ok (.string ⟨l.toArray⟩) w := by
  have hln := h.1
  obtain ⟨h1, h2⟩ := h
  simp at hln
  rcases h2 with ⟨rfl, h2⟩ | ⟨g, cap, cur, rfl, hg, hh, r⟩
  · subst h2
    have : l = [] := List.eq_nil_of_length_eq_zero hln
    subst this
    rw [run_convert_bytes_string w src dst e _ _ _ hs he hd]
    rfl
  · subst hln
    refine run_convert_bytes_back w src dst e ⟨g, 0, none⟩ cap l hs he hd ?_
    intro j hj
    have := World.ownsRow.cells (w := w) (base := base) (e := e) (size := 1) (v := .slice (some ⟨g, 0, none⟩) l.length cap) (n := l.length) ⟨h1, .inr ⟨g, cap, cur, rfl, hg, hh, r⟩⟩ (g := g) rfl j (.int .u8 (l[j].toNat : Int)) (by simp [hj])
    exact this

/-- 'make([]T, 0, c)'. -/
theorem wpList_make0 {P : Program} {ops : Array Oper} {Q : Exit → Act → World → Prop} {rest : List Oper} {a : Act} {w : World} {d : Option Tmp} {ty : TypeId} {pos : String} {af : Array Edge}
    {t e : TypeId} {z : Value} {size bytes : Nat} (hT : ElT P t e z size bytes) (x y : Operand) (c : Nat) (kl kc : IntKind) (hx : a.eval x = .int kl 0) (hy : a.eval y = .int kc (c : Int))
    (base : Nat) (hbase : base ≤ w.heap.size) (hbytes : bytes * c ≤ 281474976710656) (h63 : c ≤ maxLen)
    (h : ∀ v w', Hid (w'.ownsRow base e size v 0 []) → Hid (Fr [] w w') → wpList P ops Q rest (a.put d v) w') :
    wpList P ops Q (⟨d, .makeSlice t x y, ty, pos, af, none⟩ :: rest) a w := by
  obtain ⟨i, hi1, hi2, hi3, hi4⟩ := hT.hi
  obtain ⟨w0, hmk, hown0, hg0⟩ := run_make_own (P := P) w base t e i z size hT.ht hi1 hi2 hi3 kl kc c (by rw [hi4]; exact hbytes) h63 hbase
  refine wpList_run rfl (v := .slice (some ⟨w.heap.size, 0, none⟩) 0 c) (w1 := w0) ?_ (h _ _ hown0 (Fr.ofGrown hg0))
  generalize a.eval = ρ at hx hy
  simp [execOp, hx, hy, hmk, go_sem]

theorem size_madeCells' (z : Array Value) (n : Nat) : (madeCells z n).size = n := size_madeCells z n

/-- 'make([]T, n)' at elements of one cell. -/
theorem wpList_makeN {P : Program} {ops : Array Oper} {Q : Exit → Act → World → Prop} {rest : List Oper} {a : Act} {w : World} {d : Option Tmp} {ty : TypeId} {pos : String} {af : Array Edge}
    {t e : TypeId} {z : Value} {bytes : Nat} (hT : ElT P t e z 1 bytes) (h1 : z.oneCell' = true) (x y : Operand) (c : Nat) (kl kc : IntKind) (hx : a.eval x = .int kl (c : Int)) (hy : a.eval y = .int kc (c : Int))
    (hbytes : bytes * c ≤ 281474976710656) (h63 : c ≤ maxLen)
    (h : ∀ g w', Hid (g = w.heap.size) → Hid (Blk w' g (Array.replicate c z) e) → Hid (Fr [] w w') → wpList P ops Q rest (a.put d (.slice (some ⟨g, 0, none⟩) c c)) w') :
    wpList P ops Q (⟨d, .makeSlice t x y, ty, pos, af, none⟩ :: rest) a w := by
  obtain ⟨i, hi1, hi2, hi3, hi4⟩ := hT.hi
  have h63' : (c : Int) ≤ 9223372036854775807 := by
    have h := h63
    simp [maxLen] at h
    omega
  have hb' : (i.bytes : Int) * (c : Int) ≤ 281474976710656 := by
    rw [hi4]
    have h : ((bytes * c : Nat) : Int) ≤ 281474976710656 := by omega
    rwa [Int.natCast_mul] at h
  have hr := run_make (P := P) w t e i z hT.ht hi1 hi2 kl kc c c (by omega) (Int.le_refl _) hb' h63'
  have hcells : madeCells z.cells ((c : Int).toNat * i.size) = Array.replicate c z := by
    have hz : z.cells = #[z] := by cases z <;> first | rfl | (simp [Value.oneCell'] at h1)
    rw [hz, hi3]
    apply Array.ext
    · simp [madeCells]
    · intro j _ _; simp [madeCells, Nat.mod_one]
  rw [hcells, Int.toNat_natCast] at hr
  refine wpList_run rfl (v := .slice (some ⟨w.heap.size, 0, none⟩) c c) (w1 := w.alloc (.cells (Array.replicate c z) e)) ?_ (h _ _ rfl (Blk.new _ _ _) ((Fr.refl _ _).alloc _))
  generalize a.eval = ρ at hx hy
  simp [execOp, hx, hy, hr, go_sem]

theorem ret_int {k : IntKind} {a b : Int} (h : a = b) : Ending.returned (.int k a) = .returned (.int k b) := by rw [h]
theorem ret_str {a b : ByteArray} (h : a = b) : Ending.returned (.string a) = .returned (.string b) := by rw [h]
theorem ret_bool {a b : Bool} (h : a = b) : Ending.returned (.bool a) = .returned (.bool b) := by rw [h]

end Go.Proofs.YthfaaoeecajkeaaDoor

namespace Go.Proofs.YthfaaoeecajkeaaDoor

theorem foldl_take_succ {α : Type} (f : α → UInt8 → α) (x : α) (l : List UInt8) (k : Nat) (h : k < l.length) : (l.take (k + 1)).foldl f x = f ((l.take k).foldl f x) (l.getD k 0) := by
  rw [List.take_succ_eq_append_getElem h, List.foldl_append, List.getD_eq_getElem?_getD, List.getElem?_eq_getElem h]; rfl

/-- A text of bytes. -/
def bs (l : List UInt8) : ByteArray := ⟨l.toArray⟩
theorem bs_append (a b : List UInt8) : bs a ++ bs b = bs (a ++ b) := by
  apply ByteArray.ext
  simp [bs]
theorem bs_list (l : List UInt8) : (bs l).data.toList = l := by simp [bs]
theorem bs_of (s : ByteArray) : bs s.data.toList = s := by
  apply ByteArray.ext
  simp [bs]
theorem bs_size (l : List UInt8) : (bs l).size = l.length := by
  show l.toArray.size = _
  simp
theorem of_bs (s : ByteArray) : ∃ l, s = bs l := ⟨s.data.toList, (bs_of s).symm⟩

/-! ### numbers of a fixed size, the most significant byte first -/
def beStep (a : Nat) (b : UInt8) : Nat := (a * 256 + b.toNat) % 18446744073709551616
def beNum (n : Nat) (l : List UInt8) : Nat := l.foldl beStep n

theorem beStep_lt (a : Nat) (b : UInt8) : beStep a b < 18446744073709551616 := Nat.mod_lt _ (by decide)
theorem beNum_lt (l : List UInt8) : ∀ {n : Nat}, n < 18446744073709551616 → beNum n l < 18446744073709551616 := by
  induction l with
  | nil => exact fun h => h
  | cons c l ih => exact fun _ => ih (beStep_lt _ _)
theorem beNum_succ (n : Nat) (l : List UInt8) (k : Nat) (h : k < l.length) : beNum n (l.take (k + 1)) = beStep (beNum n (l.take k)) (l.getD k 0) := foldl_take_succ beStep n l k h

theorem or_add_nat (a b i : Nat) (ha : a % 2 ^ i = 0) (hb : b < 2 ^ i) : a ||| b = a + b := by
  have hq : a = 2 ^ i * (a / 2 ^ i) := by have := Nat.div_add_mod a (2 ^ i); omega
  rw [hq, ← Nat.two_pow_add_eq_or_of_lt hb]

/-- As the program has it. -/
theorem beStep_bits {q : Int} {a : Nat} (hq : q = (a : Int)) (b : UInt8) {d : Int} (hd : d = (b.toNat : Int)) :
    bits BinOp.or IntKind.u64 (IntKind.u64.wrap (q * 256)) (IntKind.u64.wrap d) = ((beStep a b : Nat) : Int) := by
  subst hq hd
  have hb := b.toNat_lt
  have h1 : IntKind.u64.wrap ((a : Int) * 256) = ((a * 256 % 18446744073709551616 : Nat) : Int) := by rw [IntKind.wrap_u64]; omega
  have h2 : IntKind.u64.wrap ((b.toNat : Nat) : Int) = ((b.toNat : Nat) : Int) := by rw [IntKind.wrap_u64]; omega
  rw [h1, h2, bits_or_u64_nat _ _ (Nat.mod_lt _ (by decide)) (by omega), or_add_nat _ _ 8 (by omega) (by omega)]
  unfold beStep
  omega

/-! ### numbers of seven bits a byte -/
/-- A number's bytes, seven bits each, the lowest ones first. -/
def putF : Nat → Nat → List UInt8
  | 0, _ => []
  | f + 1, n => if n < 128 then [UInt8.ofNat n] else UInt8.ofNat (n % 128 + 128) :: putF f (n / 128)
def putL (n : Nat) : List UInt8 := putF 10 n

theorem putF_length (f : Nat) : ∀ n, (putF f n).length ≤ f := by
  induction f with
  | zero => intro n; simp [putF]
  | succ f ih => intro n; rw [putF]; split; simp; simpa using ih _
theorem putL_length (n : Nat) : (putL n).length ≤ 10 := putF_length 10 n

def vS (n c k : Nat) : Nat := n ||| (c % 128 * 2 ^ (7 * k) % 18446744073709551616)

theorem vS_lt {n c k : Nat} (hn : n < 18446744073709551616) : vS n c k < 18446744073709551616 := by
  have := Nat.or_lt_two_pow (n := 64) (x := n) (y := c % 128 * 2 ^ (7 * k) % 18446744073709551616) (by simpa using hn) (by simpa using Nat.mod_lt _ (by decide))
  simpa [vS] using this

/-- The number that stands at the head, and how many bytes it has. -/
def varGo : List UInt8 → Nat → Nat → Option (Nat × Nat)
  | [], _, _ => none
  | c :: rest, i, n =>
    if 10 ≤ i then none
    else if 128 ≤ c.toNat then varGo rest (i + 1) (vS n c.toNat i)
    else if (0 < i ∧ c.toNat = 0) ∨ (i = 9 ∧ 1 < c.toNat) then none else some (vS n c.toNat i, i + 1)

theorem andNot128 : ∀ r : Fin 256, bits BinOp.andNot IntKind.u8 (r.val : Int) 128 = (r.val : Int) % 128 := by decide +kernel

theorem andNot_u8 {c : Nat} (h : c < 256) : bits BinOp.andNot IntKind.u8 (c : Int) 128 = ((c % 128 : Nat) : Int) := by
  have h1 : bits BinOp.andNot IntKind.u8 (c : Int) 128 = (c : Int) % 128 := andNot128 ⟨c, h⟩
  rw [h1]; omega

theorem vS_bits {q : Int} {n c k : Nat} (hq : q = (n : Int)) (hn : n < 18446744073709551616) (hc : c < 256) :
    bits BinOp.or IntKind.u64 q (IntKind.u64.wrap (IntKind.u64.wrap (bits BinOp.andNot IntKind.u8 (c : Int) 128) * 2 ^ (7 * k))) = ((vS n c k : Nat) : Int) := by
  subst hq
  rw [andNot_u8 hc]
  have h1 : IntKind.u64.wrap (((c % 128 : Nat) : Int)) = ((c % 128 : Nat) : Int) := by rw [IntKind.wrap_u64]; omega
  rw [h1, IntKind.wrap_u64]
  have h2 : ((c % 128 : Nat) : Int) * 2 ^ (7 * k) % 18446744073709551616 = ((c % 128 * 2 ^ (7 * k) % 18446744073709551616 : Nat) : Int) := by simp
  rw [h2, bits_or_u64_nat _ _ hn (Nat.mod_lt _ (by decide))]
  rfl

/-- What bytes stand for. -/
def vval : List UInt8 → Nat
  | [] => 0
  | c :: r => c.toNat % 128 + 128 * vval r

theorem vval_snoc (l : List UInt8) (c : UInt8) : vval (l ++ [c]) = vval l + c.toNat % 128 * 128 ^ l.length := by
  induction l with
  | nil => simp [vval]
  | cons a l ih =>
    rw [List.cons_append, vval, ih, vval, List.length_cons, Nat.pow_succ]
    have : 128 * (c.toNat % 128 * 128 ^ l.length) = c.toNat % 128 * (128 ^ l.length * 128) := by
      rw [Nat.mul_comm 128, Nat.mul_assoc]
    rw [Nat.mul_add, this]; omega

theorem vval_lt (l : List UInt8) : vval l < 128 ^ l.length := by
  induction l with
  | nil => simp [vval]
  | cons a l ih =>
    rw [vval, List.length_cons, Nat.pow_succ]
    omega

theorem vval_put (f : Nat) : ∀ n, n < 128 ^ f → vval (putF f n) = n := by
  induction f with
  | zero => intro n h; simp at h; subst h; rfl
  | succ f ih =>
    intro n h
    rw [putF]
    split
    · simp [vval]; omega
    · rw [vval, ih _ (by rw [Nat.pow_succ] at h; omega)]
      simp
      omega

/-- A number's own bytes: the last one alone is below 128; it is not 0, or it is alone. -/
inductive Own : List UInt8 → Prop
  | last (c : UInt8) : c.toNat < 128 → Own [c]
  | more (c : UInt8) (r : List UInt8) : 128 ≤ c.toNat → Own r → vval r ≠ 0 → Own (c :: r)

theorem own_put (f : Nat) : ∀ n, n < 128 ^ (f + 1) → Own (putF (f + 1) n) := by
  induction f with
  | zero => intro n h; rw [putF, if_pos (by omega)]; exact .last _ (by simp; omega)
  | succ f ih =>
    intro n h
    rw [putF]
    split
    · exact .last _ (by simp; omega)
    · have hd : n / 128 < 128 ^ (f + 1) := by rw [Nat.pow_succ] at h; omega
      exact .more _ _ (by simp; omega) (ih _ hd) (by rw [vval_put _ _ hd]; omega)

theorem put_own {l : List UInt8} (h : Own l) : ∀ f, l.length ≤ f → putF f (vval l) = l := by
  induction h with
  | last c hc =>
    intro f hf
    obtain ⟨f, rfl⟩ : ∃ m, f = m + 1 := ⟨f - 1, by simp at hf; omega⟩
    have : vval [c] = c.toNat := by simp [vval]; omega
    rw [this, putF, if_pos hc]; simp
  | more c r hc _ hv ih =>
    intro f hf
    obtain ⟨f, rfl⟩ : ∃ m, f = m + 1 := ⟨f - 1, by simp at hf; omega⟩
    have hlt := c.toNat_lt
    rw [putF, if_neg (by rw [vval]; omega)]
    have h1 : vval (c :: r) % 128 + 128 = c.toNat := by rw [vval]; omega
    have h2 : vval (c :: r) / 128 = vval r := by rw [vval]; omega
    rw [h1, h2, ih f (by simpa using hf)]; simp

theorem Own.vval_zero {l : List UInt8} (h : Own l) (hv : vval l = 0) : l.length = 1 := by
  cases h with
  | last c hc => rfl
  | more c r hc hr hv' => rw [vval] at hv; omega

/-- Bytes of 128 and more, and one below it behind them. -/
theorem own_iff (l : List UInt8) (c : UInt8) (hl : ∀ b ∈ l, 128 ≤ b.toNat) (hc : c.toNat < 128) : Own (l ++ [c]) ↔ (l = [] ∨ c.toNat ≠ 0) := by
  induction l with
  | nil => simp; exact .last c hc
  | cons a l ih =>
    have ih' := ih (fun b hb => hl b (by simp [hb]))
    constructor
    · intro h
      refine .inr ?_
      rw [List.cons_append] at h
      generalize hm : l ++ [c] = m at *
      cases h with
      | last _ h => simp at hm
      | more _ _ h1 h2 h3 =>
        rcases ih'.1 h2 with h4 | h4
        · subst h4; intro h5; apply h3; rw [← hm]; simp [vval, h5]
        · exact h4
    · intro h
      rcases h with h | h
      · cases h
      · have h1 := ih'.2 (.inr h)
        refine .more a _ (hl a (by simp)) h1 ?_
        show vval (l ++ [c]) ≠ 0
        rw [vval_snoc]
        have : 0 < c.toNat % 128 * 128 ^ l.length := Nat.mul_pos (by omega) (Nat.pow_pos (by decide))
        omega

theorem pow128 (k : Nat) : (2 : Nat) ^ (7 * k) = 128 ^ k := by rw [Nat.pow_mul]

/-- One step, as numbers. -/
theorem vS_val {l : List UInt8} {c : UInt8} (hl : l.length ≤ 9) : vS (vval l) c.toNat l.length = vval (l ++ [c]) % 18446744073709551616 := by
  have h1 := vval_lt l
  rw [vval_snoc, vS, pow128]
  by_cases h9 : l.length ≤ 8
  · have h2 : (128 : Nat) ^ l.length ≤ 128 ^ 8 := Nat.pow_le_pow_right (by decide) h9
    have h3 : c.toNat % 128 * 128 ^ l.length ≤ 127 * 128 ^ l.length := Nat.mul_le_mul_right _ (by omega)
    have h4 : (128 : Nat) ^ 8 = 72057594037927936 := by decide
    have h5 : c.toNat % 128 * 128 ^ l.length % 18446744073709551616 = c.toNat % 128 * 128 ^ l.length := Nat.mod_eq_of_lt (by omega)
    rw [h5, Nat.or_comm, or_add_nat _ _ (7 * l.length) (by rw [pow128]; exact Nat.mul_mod_left _ _) (by rw [pow128]; exact h1)]
    generalize c.toNat % 128 * 128 ^ l.length = z at *
    omega
  · have e : l.length = 9 := by omega
    rw [e] at h1 ⊢
    have h4 : (128 : Nat) ^ 9 = 9223372036854775808 := by decide
    rw [h4] at h1 ⊢
    rw [Nat.or_comm, or_add_nat _ _ 63 (by omega) (by omega)]
    omega

/-- The reference's test at the last byte says just what the program's says. -/
theorem put_test {l : List UInt8} {c : UInt8} (hl : l.length ≤ 9) (ha : ∀ b ∈ l, 128 ≤ b.toNat) (hc : c.toNat < 128) :
    putL (vS (vval l) c.toNat l.length) = l ++ [c] ↔ ¬ ((0 < l.length ∧ c.toNat = 0) ∨ (l.length = 9 ∧ 1 < c.toNat)) := by
  rw [vS_val hl]
  have hlen : (l ++ [c]).length = l.length + 1 := by simp
  have h10 : (18446744073709551616 : Nat) ≤ 128 ^ 10 := by decide
  constructor
  · intro h hbad
    have hmod : vval (l ++ [c]) % 18446744073709551616 < 18446744073709551616 := Nat.mod_lt _ (by decide)
    have hown := own_put 9 (vval (l ++ [c]) % 18446744073709551616) (by omega)
    rw [show putF (9 + 1) _ = _ from h] at hown
    rcases hbad with ⟨h1, h2⟩ | ⟨h1, h2⟩
    · rcases (own_iff l c ha hc).1 hown with h3 | h3
      · subst h3; simp at h1
      · exact h3 h2
    · have hv := vval_put 10 (vval (l ++ [c]) % 18446744073709551616) (by omega)
      rw [show putF 10 _ = _ from h, vval_snoc, h1] at hv
      have h4 : (128 : Nat) ^ 9 = 9223372036854775808 := by decide
      rw [h4] at hv
      rw [Nat.mod_eq_of_lt hc] at hv
      omega
  · intro h
    have hown : Own (l ++ [c]) := (own_iff l c ha hc).2 (by
      by_cases h1 : l = []
      · exact .inl h1
      · refine .inr fun h2 => h (.inl ⟨?_, h2⟩)
        rcases l with _ | ⟨a, l⟩
        · exact absurd rfl h1
        · simp)
    have hlt : vval (l ++ [c]) < 18446744073709551616 := by
      have h1 := vval_lt l
      rw [vval_snoc]
      by_cases h9 : l.length ≤ 8
      · have h2 : (128 : Nat) ^ l.length ≤ 128 ^ 8 := Nat.pow_le_pow_right (by decide) h9
        have h3 : c.toNat % 128 * 128 ^ l.length ≤ 127 * 128 ^ l.length := Nat.mul_le_mul_right _ (by omega)
        have h4 : (128 : Nat) ^ 8 = 72057594037927936 := by decide
        omega
      · have e : l.length = 9 := by omega
        rw [e] at h1 ⊢
        have h4 : (128 : Nat) ^ 9 = 9223372036854775808 := by decide
        rw [h4] at h1 ⊢
        have : c.toNat ≤ 1 := by
          rcases Nat.lt_or_ge 1 c.toNat with h5 | h5
          · exact absurd (.inr ⟨e, h5⟩) h
          · exact h5
        omega
    rw [Nat.mod_eq_of_lt hlt]
    exact put_own hown 10 (by rw [hlen]; omega)

end Go.Proofs.YthfaaoeecajkeaaDoor

namespace Go.Proofs.YthfaaoeecajkeaaDoor
open Go.RowKit

/-- A reader at block r. -/
def Rd (w : World) (r : Nat) (s : ByteArray) (b : Bool) : Prop := Blk w r #[.string s, .bool b] 78

set_option maxHeartbeats 400000 in
theorem vNew (s : ByteArray) (w : World) :
    Calls Tryd.prog 12 #[.string s] w fun e w' => e = .returned (.pointer (some ⟨w.heap.size, 0, none⟩)) ∧ Rd w' w.heap.size s false ∧ Fr [] w w' := by
  go_enter Tryd.func12, Tryd.ntmps12
  go_wp2
  go_ret
  exact ⟨by simp, Blk.new _ _ _, (Fr.refl _ _).alloc _⟩

set_option maxHeartbeats 400000 in
theorem vFail (r : Nat) (s : ByteArray) (b : Bool) (w : World) (h : Rd w r s b) :
    Calls Tryd.prog 39 #[.pointer (some ⟨r, 0, none⟩)] w fun e w' => e = .returned (.tuple #[]) ∧ Rd w' r ⟨#[]⟩ true ∧ Fr [r] w w' := by
  have c0 := h.cellAt (i := 0) rfl
  have c1 := h.cellAt (i := 1) rfl
  have f0 := h.froz 0
  have f1 := h.froz 1
  go_enter Tryd.func39, Tryd.ntmps39
  go_wp2
  go_end0
  exact ⟨rfl, (Blk.set h 0 _).set 1 _, ((Fr.refl _ _).setCell (by simp) _).setCell (by simp) _⟩

set_option maxHeartbeats 400000 in
theorem vLeft (r : Nat) (s : ByteArray) (b : Bool) (w : World) (h : Rd w r s b) :
    Calls Tryd.prog 17 #[.pointer (some ⟨r, 0, none⟩)] w fun e w' => e = .returned (.int .i64 s.size) ∧ w = w' := by
  have c0 := h.cellAt (i := 0) rfl
  go_enter Tryd.func17, Tryd.ntmps17
  go_wp2
  go_ret
  exact ⟨by simp, rfl⟩

set_option maxHeartbeats 400000 in
theorem vOK (r : Nat) (s : ByteArray) (b : Bool) (w : World) (h : Rd w r s b) :
    Calls Tryd.prog 16 #[.pointer (some ⟨r, 0, none⟩)] w fun e w' => e = .returned (.bool (!b)) ∧ w = w' := by
  have c1 := h.cellAt (i := 1) rfl
  go_enter Tryd.func16, Tryd.ntmps16
  go_wp2
  go_ret
  exact ⟨by simp, rfl⟩

/-- Bytes: what is read, what is left, whether it is bad. -/
def rdBytes (s : ByteArray) (b : Bool) (n : Int) : ByteArray × ByteArray × Bool :=
  if b = true ∨ n < 0 ∨ (s.size : Int) < n then (⟨#[]⟩, ⟨#[]⟩, true) else (s.extract 0 n.toNat, s.extract n.toNat s.size, b)

set_option maxHeartbeats 400000 in
theorem vBytes (r : Nat) (s : ByteArray) (b : Bool) (n : Int) (w : World) (h : Rd w r s b) :
    Calls Tryd.prog 37 #[.pointer (some ⟨r, 0, none⟩), .int .i64 n] w fun e w' =>
      e = .returned (.string (rdBytes s b n).1) ∧ Rd w' r (rdBytes s b n).2.1 (rdBytes s b n).2.2 ∧ Fr [r] w w' := by
  have c0 := h.cellAt (i := 0) rfl
  have c1 := h.cellAt (i := 1) rfl
  have f0 := h.froz 0
  by_cases hb : b = true ∨ n < 0 ∨ (s.size : Int) < n
  · have hr : rdBytes s b n = (⟨#[]⟩, ⟨#[]⟩, true) := by rw [rdBytes, if_pos hb]
    rw [hr]
    go_enter Tryd.func37, Tryd.ntmps37
    go_wp2_with (go_at_call 39; refine (vFail _ _ _ _ h).mono ?_; rintro e w' ⟨rfl, h1, h2⟩)
    all_goals first | (go_ret; exact ⟨by simp, h1, h2⟩) | (exfalso; rcases hb with hb | hb | hb <;> first | contradiction | omega)
  · have hr : rdBytes s b n = (s.extract 0 n.toNat, s.extract n.toNat s.size, b) := by rw [rdBytes, if_neg hb]
    rw [hr]
    have h0 : b = false := by simpa using fun h => hb (.inl h)
    have h1 : 0 ≤ n := by omega
    have h2 : n ≤ s.size := by omega
    subst h0
    clear hb hr
    go_enter Tryd.func37, Tryd.ntmps37
    go_wp2_with (go_at_call 39; refine (vFail _ _ _ _ h).mono ?_; rintro e w' ⟨rfl, h1, h2⟩)
    go_ret
    exact ⟨by simp, Blk.set h 0 _, (Fr.refl _ _).setCell (by simp) _⟩
theorem rdBytes_size (s : ByteArray) (b : Bool) (n : Int) (N : Nat) (hn : n ≤ N) : (rdBytes s b n).1.size ≤ N := by
  unfold rdBytes
  split
  · exact Nat.zero_le _
  · rw [ByteArray.size_extract]; omega

set_option maxRecDepth 100000 in
set_option maxHeartbeats 1000000 in
theorem vFixedR (r : Nat) (s : ByteArray) (b : Bool) (n : Int) (w : World) (h : Rd w r s b) (hn : n ≤ 8) :
    Calls Tryd.prog 35 #[.pointer (some ⟨r, 0, none⟩), .int .i64 n] w fun e w' =>
      e = .returned (.int .u64 ((beNum 0 (rdBytes s b n).1.data.toList : Nat) : Int)) ∧ Rd w' r (rdBytes s b n).2.1 (rdBytes s b n).2.2 ∧ Fr [r] w w' := by
  have hn' : ¬ 8 < n := by omega
  have ht := rdBytes_size s b n 8 hn
  generalize hx : rdBytes s b n = x at *
  have Hx := Lib.hid hx
  clear hx
  go_enter Tryd.func35, Tryd.ntmps35
  go_wp2_with fail
  refine (vBytes _ _ _ _ _ h).mono ?_
  rw [Hx.out]
  rintro e w1 ⟨rfl, h1, h2⟩
  obtain ⟨t, s1, b1⟩ := x
  dsimp only at ht h1
  go_wp2_with (refine wpList_bytes 9 43 5 _ Tryd.underlying9 Tryd.underlying43 Tryd.underlying5 _ rfl ?_; intro g cap w2 hg hB hF)
  clear hg
  go_loop [4, 16] (fun v i => ∃ (k : Nat) (q : Int), k ≤ t.size ∧ i = .int .i64 k ∧ v = .int .u64 q ∧ Hid (q = ((beNum 0 (t.data.toList.take k) : Nat) : Int))) (fun _ i => t.size - (intOf i).toNat)
  case atStart => exact ⟨0, 0, Nat.zero_le _, rfl, rfl, rfl⟩
  case round =>
    obtain ⟨k, q, hk, rfl, rfl, HQ⟩ := hrel
    by_cases hlt : k < t.size
    · have hc := hB.out.cell hlt
      have HS := Lib.hid (beNum_succ 0 t.data.toList k hlt)
      generalize t.data.toList.getD k 0 = b0 at *
      go_wp2_with fail
      go_round
      case rel => exact ⟨k + 1, _, by omega, by go_num, rfl, by show _ = _; rw [HS.out]; exact beStep_bits HQ.out b0 rfl⟩
      case measure => simp [intOf]; omega
    · go_wp2_with fail
      go_ret
      exact ⟨ret_int (by rw [HQ.out, List.take_of_length_le (show t.data.toList.length ≤ k from Nat.le_of_not_lt hlt)]), h1.fr hF.out (by simp), h2.trans0 hF.out⟩
end Go.Proofs.YthfaaoeecajkeaaDoor

namespace Go.Proofs.YthfaaoeecajkeaaDoor
open Go.RowKit

def fixB (n : Int) (i : Nat) : Int := n / 2 ^ (8 * (7 - i)) % 256
def fixArr (n : Int) (k : Nat) : Array Value := ((List.range 8).map (fun i => Value.int .u8 (if i < k then fixB n i else 0))).toArray
/-- A number's lowest bytes. -/
def fixL (n : Int) (size : Nat) : List UInt8 := ((List.range 8).drop (8 - size)).map (fun i => UInt8.ofNat (fixB n i).toNat)

theorem fixArr_set (n : Int) (k : Nat) (h : k < 8) : (fixArr n k).setIfInBounds k (.int .u8 (n / 2 ^ (8 * (7 - k)) % 256)) = fixArr n (k + 1) := by
  match k, h with
  | 0, _ => rfl | 1, _ => rfl | 2, _ => rfl | 3, _ => rfl | 4, _ => rfl | 5, _ => rfl | 6, _ => rfl | 7, _ => rfl

theorem fixArr_get (n : Int) (k i : Nat) (h : i < 8) : (fixArr n k)[i]? = some (.int .u8 (if i < k then fixB n i else 0)) := by
  simp [fixArr, h]

theorem fixB_bd (n : Int) (i : Nat) : 0 ≤ fixB n i ∧ fixB n i < 256 := by
  unfold fixB; omega

theorem fixL_length (n : Int) (size : Nat) (h : size ≤ 8) : (fixL n size).length = size := by
  simp [fixL]; omega

theorem fixL_get (n : Int) (size j : Nat) (hj : j < (fixL n size).length) (hs : size ≤ 8) : ((fixL n size)[j].toNat : Int) = fixB n (8 - size + j) := by
  have h1 : j < size := by rw [fixL_length n size hs] at hj; exact hj
  have hb := fixB_bd n (8 - size + j)
  simp [fixL]
  omega

theorem Tryd.arrayLen8 : Tryd.prog.arrayLen 109 = 8 := by kernel_rfl

theorem slice8 (g size : Nat) (h : size ≤ 8) (h1 : 1 ≤ size) (w : World) :
    (Instr.sliceAt 109 (.pointer (some ⟨g, 0, none⟩)) (some (.int .i64 (8 - (size : Int)))) none none).run Tryd.prog w = .ok (.slice (some ⟨g, 8 - size, none⟩) size size) w := by
  rw [run_sliceAt_array_l w 109 _ (by kernel_rfl) _ _ (by omega) (by rw [Tryd.arrayLen8]; omega), Tryd.arrayLen8]
  have e : ((8 : Int) - size).toNat = 8 - size := by omega
  have hz : (sizeOf (Tryd.prog.elem 109)).run Tryd.prog w = .ok 1 w := by kernel_rfl
  rw [hz, e]
  have h3 : ¬ (8 = 8 - size) := by omega
  have h4 : 8 - (8 - size) = size := by omega
  simp [Result.andThen, slicedAt, h3, h4, Addr.add]
  omega

set_option maxRecDepth 100000 in
set_option maxHeartbeats 1000000 in
theorem vFixed (n : Int) (size : Nat) (w : World) (h : size ≤ 8) (h1 : 1 ≤ size) (_hn0 : 0 ≤ n) (_hn : n < 18446744073709551616):
    Calls Tryd.prog 54 #[.int .u64 n, .int .i64 size] w fun e w' =>
      e = .returned (.string (bs (fixL n size))) ∧ Fr [] w w' := by
  have hsl := slice8 w.heap.size size h h1
  go_enter Tryd.func54, Tryd.ntmps54
  go_wp2_with fail
  go_loopw [6, 13] (fun _ i wr => ∃ k : Nat, k ≤ 8 ∧ i = .int .i64 k ∧ Blk wr w.heap.size (fixArr n k) 109 ∧ Fr [] w wr) (fun _ i _ => 8 - (intOf i).toNat)
  case atStart => exact ⟨0, by omega, rfl, Blk.new w (fixArr n 0) _, (Fr.refl _ _).alloc _⟩
  case round =>
    obtain ⟨k, hk, rfl, HB, HF⟩ := hrel
    by_cases hlt : k < 8
    · have hc := HB.cellAt (fixArr_get n k k hlt)
      have hf := HB.froz k
      clear hsl
      go_wp2_with fail
      go_roundw
      case rel => exact ⟨k + 1, by omega, by go_num, by rw [← fixArr_set n k hlt]; exact HB.set k _, HF.setCell (.inr (Nat.le_refl _)) _⟩
      case measure => simp [intOf]; omega
    · obtain rfl : k = 8 := by omega
      have hcv := run_convert_bytes_back (P := Tryd.prog) wr 43 9 5 ⟨w.heap.size, 8 - size, none⟩ size (fixL n size) Tryd.underlying43 Tryd.underlying5 Tryd.underlying9
        (fun j hj => by
          have h2 : j < size := by rw [fixL_length n size h] at hj; exact hj
          rw [fixL_get n size j hj h]
          have h5 := HB.cellAt (fixArr_get n 8 (8 - size + j) (by omega))
          rw [if_pos (by omega)] at h5
          rw [← h5]
          unfold Addr.add
          split
          · subst j; rfl
          · rfl)
      rw [fixL_length n size h] at hcv
      go_wp2_with fail
      go_ret
      exact ⟨by simp [bs], HF⟩
end Go.Proofs.YthfaaoeecajkeaaDoor

namespace Go.Proofs.YthfaaoeecajkeaaDoor
open Go.RowKit

theorem Tryd.elB : ElT Tryd.prog 43 5 (.int .u8 0) 1 1 := ElT.mk' Tryd.underlying43 (by kernel_rfl) rfl (by decide)

def cellsB (l : List UInt8) : List Value := l.map (fun b => Value.int .u8 (b.toNat : Int))

theorem or128 : ∀ r : Fin 256, bits BinOp.or IntKind.u8 (r.val : Int) 128 = (r.val : Int) % 128 + 128 := by decide +kernel

theorem or128_int (q : Int) (_h : 0 ≤ q) : bits BinOp.or IntKind.u8 (q % 256) 128 = ((UInt8.ofNat (q.toNat % 128 + 128)).toNat : Int) := by
  have h1 := or128 ⟨(q % 256).toNat, by omega⟩
  have h2 : (((q % 256).toNat : Nat) : Int) = q % 256 := by omega
  simp only [h2] at h1
  rw [h1]
  simp
  omega

theorem putF_more {f : Nat} {q : Int} (_h : 0 ≤ q) (hq : 128 ≤ q) : putF (f + 1) q.toNat = UInt8.ofNat (q.toNat % 128 + 128) :: putF f (q / 128).toNat := by
  rw [putF, if_neg (by omega)]
  congr 2
  omega

theorem putF_last {f : Nat} {q : Int} (hq : q < 128) : putF (f + 1) q.toNat = [UInt8.ofNat q.toNat] := by
  rw [putF, if_pos (by omega)]

theorem cellsB_snoc (l : List UInt8) (b : UInt8) : cellsB l ++ [.int .u8 (b.toNat : Int)] = cellsB (l ++ [b]) := by simp [cellsB]

theorem ofNat_toNat {q : Int} (h0 : 0 ≤ q) (h : q < 256) : ((UInt8.ofNat q.toNat).toNat : Int) = q := by simp; omega
end Go.Proofs.YthfaaoeecajkeaaDoor

namespace Go.Proofs.YthfaaoeecajkeaaDoor
open Go.RowKit

/-- A reader of the reference at block r. -/
def RRd (w : World) (r : Nat) (s : ByteArray) (b : Bool) : Prop := Blk w r #[.string s, .bool b] 39

set_option maxHeartbeats 400000 in
theorem rvNew (s : ByteArray) (w : World) :
    Calls Tryd.prog 13 #[.string s] w fun e w' => e = .returned (.pointer (some ⟨w.heap.size, 0, none⟩)) ∧ RRd w' w.heap.size s false ∧ Fr [] w w' := by
  go_enter Tryd.func13, Tryd.ntmps13
  go_wp2
  go_ret
  exact ⟨by simp, Blk.new _ _ _, (Fr.refl _ _).alloc _⟩

set_option maxHeartbeats 400000 in
theorem rvFail (r : Nat) (s : ByteArray) (b : Bool) (w : World) (h : RRd w r s b) :
    Calls Tryd.prog 42 #[.pointer (some ⟨r, 0, none⟩)] w fun e w' => e = .returned (.tuple #[]) ∧ RRd w' r ⟨#[]⟩ true ∧ Fr [r] w w' := by
  have c0 := h.cellAt (i := 0) rfl
  have c1 := h.cellAt (i := 1) rfl
  have f0 := h.froz 0
  have f1 := h.froz 1
  go_enter Tryd.func42, Tryd.ntmps42
  go_wp2
  go_end0
  exact ⟨rfl, (Blk.set h 1 _).set 0 _, ((Fr.refl _ _).setCell (by simp) _).setCell (by simp) _⟩

set_option maxHeartbeats 400000 in
theorem rvBytes (r : Nat) (s : ByteArray) (b : Bool) (n : Int) (w : World) (h : RRd w r s b) :
    Calls Tryd.prog 40 #[.pointer (some ⟨r, 0, none⟩), .int .i64 n] w fun e w' =>
      e = .returned (.string (rdBytes s b n).1) ∧ RRd w' r (rdBytes s b n).2.1 (rdBytes s b n).2.2 ∧ Fr [r] w w' := by
  have c0 := h.cellAt (i := 0) rfl
  have c1 := h.cellAt (i := 1) rfl
  have f0 := h.froz 0
  by_cases hb : b = true ∨ n < 0 ∨ (s.size : Int) < n
  · have hr : rdBytes s b n = (⟨#[]⟩, ⟨#[]⟩, true) := by rw [rdBytes, if_pos hb]
    rw [hr]
    go_enter Tryd.func40, Tryd.ntmps40
    go_wp2_with (go_at_call 42; refine (rvFail _ _ _ _ h).mono ?_; rintro e w' ⟨rfl, h1, h2⟩)
    all_goals first | (go_ret; exact ⟨by simp, h1, h2⟩) | (exfalso; rcases hb with hb | hb | hb <;> first | contradiction | omega)
  · have hr : rdBytes s b n = (s.extract 0 n.toNat, s.extract n.toNat s.size, b) := by rw [rdBytes, if_neg hb]
    rw [hr]
    have h0 : b = false := by simpa using fun h => hb (.inl h)
    have h1 : 0 ≤ n := by omega
    have h2 : n ≤ s.size := by omega
    subst h0
    clear hb hr
    go_enter Tryd.func40, Tryd.ntmps40
    go_wp2_with (go_at_call 42; refine (rvFail _ _ _ _ h).mono ?_; rintro e w' ⟨rfl, h1, h2⟩)
    go_ret
    exact ⟨by simp, Blk.set h 0 _, (Fr.refl _ _).setCell (by simp) _⟩
theorem beStep_mul {q : Int} {a : Nat} (hq : q = (a : Int)) (b : UInt8) :
    IntKind.u64.wrap (IntKind.u64.wrap (q * 256) + IntKind.u64.wrap (b.toNat : Int)) = ((beStep a b : Nat) : Int) := by
  subst hq
  have := b.toNat_lt
  simp only [IntKind.wrap_u64]
  unfold beStep
  omega

theorem getD_get (s : ByteArray) (k : Nat) (h : k < s.size) : s.data.toList.getD k 0 = s[k] := by
  have h' : k < s.data.toList.length := h
  rw [List.getD_eq_getElem?_getD, List.getElem?_eq_getElem h']; rfl

set_option maxRecDepth 100000 in
set_option maxHeartbeats 1000000 in
theorem rvFixedR (r : Nat) (s : ByteArray) (b : Bool) (n : Int) (w : World) (h : RRd w r s b) (hn0 : 0 ≤ n) (hn : n ≤ 8) :
    Calls Tryd.prog 41 #[.pointer (some ⟨r, 0, none⟩), .int .i64 n] w fun e w' =>
      e = .returned (.int .u64 ((beNum 0 (rdBytes s b n).1.data.toList : Nat) : Int)) ∧ RRd w' r (rdBytes s b n).2.1 (rdBytes s b n).2.2 ∧ Fr [r] w w' := by
  have hn' : ¬ 8 < n := by omega
  have ht := rdBytes_size s b n 8 hn
  generalize hx : rdBytes s b n = x at *
  have Hx := Lib.hid hx
  clear hx
  go_enter Tryd.func41, Tryd.ntmps41
  go_wp2_with fail
  refine (rvBytes _ _ _ _ _ h).mono ?_
  rw [Hx.out]
  rintro e w1 ⟨rfl, h1, h2⟩
  obtain ⟨t, s1, b1⟩ := x
  dsimp only at ht h1
  go_wp2_with fail
  go_loop [6, 7] (fun v i => ∃ (k : Nat) (q : Int), k ≤ t.size ∧ i = .int .i64 k ∧ v = .int .u64 q ∧ Hid (q = ((beNum 0 (t.data.toList.take k) : Nat) : Int))) (fun _ i => t.size - (intOf i).toNat)
  case atStart => exact ⟨0, 0, Nat.zero_le _, rfl, rfl, rfl⟩
  case round =>
    obtain ⟨k, q, hk, rfl, rfl, HQ⟩ := hrel
    by_cases hlt : k < t.size
    · have HS := Lib.hid (beNum_succ 0 t.data.toList k hlt)
      rw [getD_get t k hlt] at HS
      go_wp2_with fail
      go_round
      case rel => exact ⟨k + 1, _, by omega, by go_num, rfl, by show _ = _; rw [HS.out]; exact beStep_mul HQ.out t[k]⟩
      case measure => simp [intOf]; omega
    · go_wp2_with fail
      go_ret
      exact ⟨ret_int (by rw [HQ.out, List.take_of_length_le (show t.data.toList.length ≤ k from Nat.le_of_not_lt hlt)]), h1, h2⟩
end Go.Proofs.YthfaaoeecajkeaaDoor

namespace Go.Proofs.YthfaaoeecajkeaaDoor
open Go.RowKit

def refArr (n : Int) (size j : Nat) : Array Value := ((List.range size).map (fun i => Value.int .u8 (if j ≤ i then n / 256 ^ (size - 1 - i) % 256 else 0))).toArray

theorem refArr_set (n : Int) (size j : Nat) (_h : j < size) : (refArr n size (j + 1)).setIfInBounds j (.int .u8 (n / 256 ^ (size - 1 - j) % 256)) = refArr n size j := by
  apply Array.ext
  · simp [refArr]
  · intro i h1 h2
    simp only [refArr, Array.size_setIfInBounds, List.size_toArray, List.length_map, List.length_range] at h1 h2
    rw [Array.getElem_setIfInBounds (by simpa [refArr] using h1)]
    simp only [refArr, List.getElem_toArray, List.getElem_map, List.getElem_range]
    by_cases e : j = i
    · subst e; simp
    · rw [if_neg e]
      congr 1
      by_cases h3 : j ≤ i
      · rw [if_pos (by omega), if_pos h3]
      · rw [if_neg (by omega), if_neg h3]

theorem refArr_get (n : Int) (size j i : Nat) (h : i < size) : (refArr n size j)[i]? = some (.int .u8 (if j ≤ i then n / 256 ^ (size - 1 - i) % 256 else 0)) := by
  simp [refArr, h]

theorem refArr_zero (n : Int) (size : Nat) : refArr n size size = Array.replicate size (.int .u8 0) := by
  apply Array.ext
  · simp [refArr]
  · intro i h1 h2
    simp only [refArr, List.size_toArray, List.length_map, List.length_range] at h1
    simp [refArr]
    omega

theorem pow256 (k : Nat) : (2 : Int) ^ (8 * k) = 256 ^ k := by rw [Int.pow_mul]; rfl

theorem fixB_ref (n : Int) (size i : Nat) (hs : size ≤ 8) (hi : i < size) : fixB n (8 - size + i) = n / 256 ^ (size - 1 - i) % 256 := by
  unfold fixB
  rw [pow256, show 7 - (8 - size + i) = size - 1 - i from by omega]

theorem div256 (n : Int) (k : Nat) : n / 256 ^ k / 256 = n / 256 ^ (k + 1) := by
  rw [Int.ediv_ediv_of_nonneg (by exact Int.pow_nonneg (by decide)), Int.pow_succ]

set_option maxRecDepth 100000 in
set_option maxHeartbeats 1000000 in
theorem rvFixed (n : Int) (size : Nat) (w : World) (h : size ≤ 8) (_h1 : 1 ≤ size) (hn0 : 0 ≤ n) (hn : n < 18446744073709551616):
    Calls Tryd.prog 61 #[.int .u64 n, .int .i64 size] w fun e w' =>
      e = .returned (.string (bs (fixL n size))) ∧ Fr [] w w' := by
  have hmx : size ≤ maxLen := by unfold maxLen; omega
  have hy0 : (0 : Int) ≤ size := by omega
  go_enter Tryd.func61, Tryd.ntmps61
  go_wp2_with (refine wpList_makeN Tryd.elB rfl _ _ size _ _ rfl rfl (by omega) hmx ?_; intro g w1 hg HB HF)
  have HG : Hid (w.heap.size ≤ g) := by have := hg.out; show w.heap.size ≤ g; omega
  clear hg
  go_loopw [0, 6] (fun x i wr => ∃ (j : Nat) (q : Int), j ≤ size ∧ 0 ≤ q ∧ q < 18446744073709551616 ∧ x = .int .u64 q ∧ i = .int .i64 ((j : Int) - 1) ∧ Hid (q = n / 256 ^ (size - j)) ∧ Hid (Blk wr g (refArr n size j) 5) ∧ Hid (Fr [] w wr)) (fun _ i _ => (intOf i + 1).toNat)
  case atStart => exact ⟨size, n, Nat.le_refl _, hn0, hn, rfl, rfl, by show _ = _; simp, by rw [refArr_zero]; exact HB, HF⟩
  case round =>
    obtain ⟨j, q, hj, hq0, hq, rfl, rfl, HQ, HB, HF⟩ := hrel
    by_cases hlt : 1 ≤ j
    · obtain ⟨j, rfl⟩ : ∃ m, j = m + 1 := ⟨j - 1, by omega⟩
      have e1 : ((j + 1 : Nat) : Int) - 1 = (j : Int) := by omega
      rw [e1]
      have hc := HB.out.cellAt (refArr_get n size (j + 1) j (by omega))
      have hf := HB.out.froz j
      have hjl : (j : Int) < size := by omega
      have HS := Lib.hid (refArr_set n size j (by omega))
      clear e1
      go_wp2_with fail
      go_roundw
      case rel =>
        refine ⟨j, _, by omega, by omega, by omega, rfl, rfl, ?_, ?_, HF.out.setCell (.inr HG.out) _⟩
        · show _ = _
          rw [HQ.out, div256, show size - (j + 1) + 1 = size - j from by omega]
        · show Blk _ _ _ _
          rw [← HS.out, HQ.out, show size - (j + 1) = size - 1 - j from by omega]
          exact HB.out.set j _
      case measure => simp [intOf]
    · obtain rfl : j = 0 := by omega
      have hcv := run_convert_bytes_back (P := Tryd.prog) wr 43 9 5 ⟨g, 0, none⟩ size (fixL n size) Tryd.underlying43 Tryd.underlying5 Tryd.underlying9
        (fun j hj => by
          have h2 : j < size := by rw [fixL_length n size h] at hj; exact hj
          rw [fixL_get n size j hj h]
          have h5 := HB.out.cellAt (refArr_get n size 0 j h2)
          rw [if_pos (by omega), ← fixB_ref n size j h h2] at h5
          rw [← h5]
          unfold Addr.add
          split
          · subst j; rfl
          · simp)
      rw [fixL_length n size h] at hcv
      go_wp2_with fail
      go_ret
      exact ⟨by simp [bs], HF.out⟩
end Go.Proofs.YthfaaoeecajkeaaDoor

namespace Go.Proofs.YthfaaoeecajkeaaDoor
theorem bs_nil_size : (bs []).size = 0 := rfl
theorem bs_extract (l : List UInt8) (a b : Nat) : (bs l).extract a b = bs ((l.take b).drop a) := by
  apply ByteArray.ext
  apply Array.toList_inj.1
  have h := Lib.extract_data (bs l) a b
  rw [bs_list] at h
  rw [h, bs_list, List.drop_take]

theorem rdBytes_bs (l : List UInt8) (n : Nat) : rdBytes (bs l) false n = if l.length < n then (bs [], bs [], true) else (bs (l.take n), bs (l.drop n), false) := by
  unfold rdBytes
  by_cases h : l.length < n
  · rw [if_pos (by right; right; rw [bs_size]; omega), if_pos h]; rfl
  · rw [if_neg (by rw [bs_size]; simp; omega), if_neg h, Int.toNat_natCast, bs_extract, bs_extract, bs_size]
    simp

theorem rdBytes_bad (s : ByteArray) (n : Int) : rdBytes s true n = (bs [], bs [], true) := by
  unfold rdBytes; rw [if_pos (.inl rfl)]; rfl

theorem fixL_one (n : Nat) (h : n < 256) : fixL n 1 = [UInt8.ofNat n] := by
  have e : List.drop (8 - 1) (List.range 8) = [7] := rfl
  have h7 : fixB (n : Int) 7 = (n : Int) := by unfold fixB; simp; omega
  unfold fixL
  rw [e]
  simp only [List.map_cons, List.map_nil, h7, Int.toNat_natCast]

theorem fixL_four (n : Nat) : fixL n 4 = [UInt8.ofNat (n / 16777216 % 256), UInt8.ofNat (n / 65536 % 256), UInt8.ofNat (n / 256 % 256), UInt8.ofNat (n % 256)] := by
  have e : List.drop (8 - 4) (List.range 8) = [4, 5, 6, 7] := rfl
  have h4 : fixB (n : Int) 4 = ((n / 16777216 % 256 : Nat) : Int) := by unfold fixB; simp
  have h5 : fixB (n : Int) 5 = ((n / 65536 % 256 : Nat) : Int) := by unfold fixB; simp
  have h6 : fixB (n : Int) 6 = ((n / 256 % 256 : Nat) : Int) := by unfold fixB; simp
  have h7 : fixB (n : Int) 7 = ((n % 256 : Nat) : Int) := by unfold fixB; simp
  unfold fixL
  rw [e]
  simp only [List.map_cons, List.map_nil, h4, h5, h6, h7, Int.toNat_natCast]

theorem beNum_four (a b c d : UInt8) : beNum 0 [a, b, c, d] = a.toNat * 16777216 + b.toNat * 65536 + c.toNat * 256 + d.toNat := by
  have := a.toNat_lt; have := b.toNat_lt; have := c.toNat_lt; have := d.toNat_lt
  simp only [beNum, List.foldl_cons, List.foldl_nil, beStep]
  omega

theorem beNum_fix4 (n : Nat) (h : n < 4294967296) : beNum 0 (fixL n 4) = n := by
  rw [fixL_four, beNum_four]
  simp
  omega

theorem fix4_beNum (l : List UInt8) (h : l.length = 4) : fixL (beNum 0 l : Nat) 4 = l := by
  match l, h with
  | [a, b, c, d], _ =>
    have ha := a.toNat_lt; have hb := b.toNat_lt; have hc := c.toNat_lt; have hd := d.toNat_lt
    rw [beNum_four, fixL_four]
    have h1 : (a.toNat * 16777216 + b.toNat * 65536 + c.toNat * 256 + d.toNat) / 16777216 % 256 = a.toNat := by omega
    have h2 : (a.toNat * 16777216 + b.toNat * 65536 + c.toNat * 256 + d.toNat) / 65536 % 256 = b.toNat := by omega
    have h3 : (a.toNat * 16777216 + b.toNat * 65536 + c.toNat * 256 + d.toNat) / 256 % 256 = c.toNat := by omega
    have h4 : (a.toNat * 16777216 + b.toNat * 65536 + c.toNat * 256 + d.toNat) % 256 = d.toNat := by omega
    rw [h1, h2, h3, h4]
    simp

theorem beNum_one' (c : UInt8) : beNum 0 [c] = c.toNat := by
  have := c.toNat_lt
  simp only [beNum, List.foldl_cons, List.foldl_nil, beStep]
  omega

end Go.Proofs.YthfaaoeecajkeaaDoor

namespace Go.Proofs.YthfaaoeecajkeaaDoor
open Go.RowKit

def imEnt (κ : IntKind) : Nat → List (Int × Value) → List MapEntry
  | _, [] => []
  | i, (k, v) :: r => { key := .int κ k, val := v, born := i } :: imEnt κ (i + 1) r
def imObj (κ : IntKind) (l : List (Int × Value)) : Obj := .map (imEnt κ 0 l).toArray l.length
def imLook (l : List (Int × Value)) (k : Int) : Option Value := (l.find? (fun p => k == p.1)).map (·.2)

theorem imEnt_snoc (κ : IntKind) (l : List (Int × Value)) (k : Int) (v : Value) : ∀ i, imEnt κ i (l ++ [(k, v)]) = imEnt κ i l ++ [{ key := .int κ k, val := v, born := i + l.length }] := by
  induction l with
  | nil => intro i; simp [imEnt]
  | cons p l ih => intro i; obtain ⟨a, b⟩ := p; simp [imEnt, ih]; omega

theorem findNow_im (κ κ' : IntKind) (k : Int) (l : List (Int × Value)) : ∀ i j, (Instr.findNow (.int κ') (.int κ k) (imEnt κ i l) j).map (fun o => o.map (·.2)) = some (imLook l k) := by
  induction l with
  | nil => intro i j; rfl
  | cons p l ih =>
    intro i j
    obtain ⟨a, b⟩ := p
    by_cases h : (k == a) = true
    · simp [imEnt, Instr.findNow, Instr.sameNow, h, imLook]
    · have h' : (k == a) = false := by simpa using h
      simp only [imEnt, Instr.findNow, Instr.sameNow, h', if_true]
      rw [ih]
      simp [imLook, h']

theorem wpList_skip {P : Program} {ops : Array Oper} {Q : Exit → Act → World → Prop} {rest : List Oper} {o : Oper} {a : Act} {w w1 : World} (hg : o.guard = none)
    (hrun : (execOp a.eval o).run P w = .ok .skip w1) (h : wpList P ops Q rest (a.put o.dst undef) w1) : wpList P ops Q (o :: rest) a w :=
  wpList_plain hg fun K hK => by
    unfold Oper.wp
    rw [hrun]
    exact hK _ _ h

section
variable {P : Program} {ops : Array Oper} {Q : Exit → Act → World → Prop} {rest : List Oper} {a : Act} {w : World} {d : Option Tmp} {ty : TypeId} {pos : String} {af : Array Edge}

theorem run_key (kt : TypeId) (κ : IntKind) (hk : P.underlying kt = some (.int κ)) (b : Bool) (k : Int) (w : World) : (Instr.checkKey b 10000 kt (.int κ k)).run P w = .ok () w :=
  MapKept.run_checkKey hk (by simp [MapKept.IsKey]) b 9999

theorem wpList_makeMap (t : TypeId) (κ : IntKind) (h : ∀ r w', Hid (r = w.heap.size) → Hid (w'.heap[r]? = some (imObj κ [])) → Hid (Fr [] w w') → wpList P ops Q rest (a.put d (.map (some r))) w') :
    wpList P ops Q (⟨d, .makeMap t none, ty, pos, af, none⟩ :: rest) a w := by
  have hr := run_makeMap (P := P) t w
  refine wpList_run rfl (v := .map (some w.heap.size)) (w1 := w.alloc (.map #[] 0)) ?_ (h _ _ rfl ?_ ((Fr.refl _ _).alloc _))
  · simp [execOp, hr, go_sem]
  · show (w.heap.push _)[w.heap.size]? = _
    simp [imObj, imEnt]

theorem wpList_insert (t kt et : TypeId) (ht : P.underlying t = some (.map kt et)) (κ : IntKind) (hk : P.underlying kt = some (.int κ)) (m x y : Operand) (r : Nat) (k : Int) (v : Value) (l : List (Int × Value))
    (hm : a.eval m = .map (some r)) (hx : a.eval x = .int κ k) (hy : a.eval y = v) (hb : Hid (w.heap[r]? = some (imObj κ l))) (hl : imLook l k = none)
    (h : ∀ w', Hid (w'.heap[r]? = some (imObj κ (l ++ [(k, v)]))) → Hid (Fr [r] w w') → wpList P ops Q rest (a.put d undef) w') :
    wpList P ops Q (⟨d, .insert t m x y, ty, pos, af, none⟩ :: rest) a w := by
  have hrun : (Instr.mapUpdate t (.map (some r)) (.int κ k) v).run P w = .ok () { w with heap := w.heap.setIfInBounds r (imObj κ (l ++ [(k, v)])) } := by
    have hb' : w.heap[r]? = some (.map (imEnt κ 0 l).toArray l.length) := hb.out
    have hf := findNow_im κ κ k l 0 0
    rw [hl] at hf
    have hf' : Instr.findNow (.int κ) (.int κ k) (imEnt κ 0 l) 0 = some none := by
      revert hf
      cases Instr.findNow (.int κ) (.int κ k) (imEnt κ 0 l) 0 with
      | none => simp
      | some o => cases o <;> simp
    have hc := fun b => run_key (P := P) kt κ hk b k w
    simp [Instr.mapUpdate, run_underlying ht, hc, run_underlying hk, Instr.findKey, getObj, setObj, Sem.run, hb', hf', Result.andThen, imObj, imEnt_snoc]
  refine wpList_skip rfl (w1 := { w with heap := w.heap.setIfInBounds r (imObj κ (l ++ [(k, v)])) }) ?_ (h _ ?_ ?_)
  · generalize a.eval = ρ at hm hx hy
    simp [execOp, hm, hx, hy, hrun, go_sem]
  · show (w.heap.setIfInBounds r _)[r]? = _
    rw [Array.getElem?_setIfInBounds]
    simp [blk_lt hb.out]
  · refine ⟨rfl, rfl, rfl, by simp, fun i _ hn => ?_⟩
    show (w.heap.setIfInBounds r _)[i]? = _
    rw [Array.getElem?_setIfInBounds, if_neg (by simpa using fun e => hn (by simp [e]))]

/-- The same, with what has become of the world since the map was made. -/
theorem wpList_insertF (t kt et : TypeId) (ht : P.underlying t = some (.map kt et)) (κ : IntKind) (hk : P.underlying kt = some (.int κ)) (m x y : Operand) (r : Nat) (k : Int) (v : Value) (l : List (Int × Value)) (wz : World)
    (hm : a.eval m = .map (some r)) (hx : a.eval x = .int κ k) (hy : a.eval y = v) (hb : Hid (w.heap[r]? = some (imObj κ l))) (hf : Hid (Fr [r] wz w)) (hl : imLook l k = none)
    (h : ∀ w', Hid (w'.heap[r]? = some (imObj κ (l ++ [(k, v)]))) → Hid (Fr [r] wz w') → wpList P ops Q rest (a.put d undef) w') :
    wpList P ops Q (⟨d, .insert t m x y, ty, pos, af, none⟩ :: rest) a w :=
  wpList_insert t kt et ht κ hk m x y r k v l hm hx hy hb hl (fun w' h1 h2 => h w' h1 (hf.out.trans1 h2.out))

theorem run_look (t kt et : TypeId) (ht : P.underlying t = some (.map kt et)) (κ : IntKind) (hk : P.underlying kt = some (.int κ)) (z : Value) (hz : ∀ w, (zeroValue et).run P w = .ok z w)
    (r : Nat) (k : Int) (l : List (Int × Value)) (hb : w.heap[r]? = some (imObj κ l)) (ok : Bool) :
    (Instr.lookup t (.map (some r)) (.int κ k) ok).run P w = .ok (if ok then .tuple #[(imLook l k).getD z, .bool (imLook l k).isSome] else (imLook l k).getD z) w := by
  have hb' : w.heap[r]? = some (.map (imEnt κ 0 l).toArray l.length) := hb
  have hf := findNow_im κ κ k l 0 0
  have hc := fun b => run_key (P := P) kt κ hk b k w
  cases hn : Instr.findNow (.int κ) (.int κ k) (imEnt κ 0 l) 0 with
  | none => rw [hn] at hf; simp at hf
  | some o =>
    rw [hn] at hf
    simp only [Option.map_some, Option.some.injEq] at hf
    rw [← hf]
    cases o with
    | none => simp [Instr.lookup, run_underlying ht, hc, run_underlying hk, Instr.findKey, getObj, Sem.run, hb', hn, Result.andThen, hz]
    | some p => simp [Instr.lookup, run_underlying ht, hc, run_underlying hk, Instr.findKey, getObj, Sem.run, hb', hn, Result.andThen]

theorem wpList_look (t kt et : TypeId) (ht : P.underlying t = some (.map kt et)) (κ : IntKind) (hk : P.underlying kt = some (.int κ)) (z : Value) (hz : ∀ w, (zeroValue et).run P w = .ok z w) (m x : Operand) (r : Nat) (k : Int)
    (l : List (Int × Value)) (hm : a.eval m = .map (some r)) (hx : a.eval x = .int κ k) (hb : Hid (w.heap[r]? = some (imObj κ l))) (ok : Bool) (res : Option Value) (hres : imLook l k = res)
    (h : wpList P ops Q rest (a.put d (if ok then .tuple #[res.getD z, .bool res.isSome] else res.getD z)) w) :
    wpList P ops Q (⟨d, .lookup t m x ok, ty, pos, af, none⟩ :: rest) a w := by
  have hrun := run_look (w := w) t kt et ht κ hk z hz r k l hb.out ok
  rw [hres] at hrun
  refine wpList_run rfl ?_ h
  generalize a.eval = ρ at hm hx
  simp [execOp, hm, hx, hrun, go_sem]
end

end Go.Proofs.YthfaaoeecajkeaaDoor

namespace Go.Proofs.YthfaaoeecajkeaaDoor
open Go.RowKit

/-! ### entries and messages as data -/
structure Ent where
  term : Int
  index : Int
  kind : Int
  client : Int
  seq : Int
  block : Int
  many : Int
  node : Int
  level : Int
  data : ByteArray
  old : ByteArray

def Ent.cells (e : Ent) : Array Value := #[.int .u64 e.term, .int .u64 e.index, .int .i64 e.kind, .int .u64 e.client, .int .u64 e.seq, .int .u64 e.block, .int .u64 e.many, .int .i64 e.node, .int .i64 e.level, .string e.data, .string e.old]

def U64 (n : Int) : Prop := 0 ≤ n ∧ n < 18446744073709551616
structure Ent.Fits (e : Ent) : Prop where
  term : U64 e.term
  index : U64 e.index
  client : U64 e.client
  seq : U64 e.seq
  block : U64 e.block
  many : U64 e.many
  data : e.data.size ≤ maxLen
  old : e.old.size ≤ maxLen

/-- A slice that reads as these entries. -/
def Ents (w : World) (v : Value) (l : List Ent) : Prop :=
  (l = [] ∧ ∃ a c, v = .slice a 0 c) ∨
  ∃ b o c, v = .slice (some ⟨b, o, none⟩) l.length c ∧ b < w.heap.size ∧ ∀ j (hj : j < l.length) i, i < 11 → w.cell? ⟨b, o + j * 11 + i, none⟩ = l[j].cells[i]?

theorem Ents.fr {S : List Nat} {w w' : World} {v : Value} {l : List Ent} (h : Ents w v l) (hf : Fr S w w') (hn : ∀ b, v.ownBlock = some b → b ∉ S) : Ents w' v l := by
  rcases h with h | ⟨b, o, c, rfl, hb, h⟩
  · exact .inl h
  · refine .inr ⟨b, o, c, rfl, Nat.lt_of_lt_of_le hb hf.size, fun j hj i hi => ?_⟩
    rw [← h j hj i hi]
    exact World.cell?_of_block (w := w) (hf.block b hb (hn b rfl))
theorem Ents.fr0 {w w' : World} {v : Value} {l : List Ent} (h : Ents w v l) (hf : Fr [] w w') : Ents w' v l := h.fr hf (fun _ _ => by simp)

theorem strZero : ∀ w, (zeroValue 9).run Tryd.prog w = .ok (.string ⟨#[]⟩) w := fun _ => by kernel_rfl

def nodeB (n : Int) : Bool := decide (1 ≤ n) && decide (n ≤ 7)
def smallB (n : Int) : Bool := n / 4294967296 == 0

set_option maxHeartbeats 400000 in
theorem eNode (n : Int) (w : World) : Calls Tryd.prog 53 #[.int .i64 n] w fun e w' => e = .returned (.bool (nodeB n)) ∧ w = w' := by
  go_enter Tryd.func53, Tryd.ntmps53
  go_wp2
  all_goals go_ret
  all_goals refine ⟨?_, rfl⟩
  all_goals simp [nodeB, *]
  all_goals omega

set_option maxHeartbeats 400000 in
theorem eSmall (n : Int) (w : World) (_h0 : 0 ≤ n) (_h1 : n < 18446744073709551616) : Calls Tryd.prog 52 #[.int .u64 n] w fun e w' => e = .returned (.bool (smallB n)) ∧ w = w' := by
  go_enter Tryd.func52, Tryd.ntmps52
  go_wp2
  go_ret
  exact ⟨by simp [smallB], rfl⟩

def msgMayT : List (Int × Value) := [(1, .string ⟨#[105, 112]⟩), (2, .string ⟨#[121]⟩), (3, .string ⟨#[105, 112]⟩), (4, .string ⟨#[121]⟩), (5, .string ⟨#[105, 112, 116, 101, 107]⟩), (6, .string ⟨#[105, 121, 107]⟩), (7, .string ⟨#[105, 112, 115]⟩), (8, .string ⟨#[105]⟩), (9, .string ⟨#[107]⟩), (10, .string ⟨#[107]⟩)]
def msgMay (k : Int) : ByteArray × Bool :=
  if k = 1 then (⟨#[105, 112]⟩, true)
  else if k = 2 then (⟨#[121]⟩, true)
  else if k = 3 then (⟨#[105, 112]⟩, true)
  else if k = 4 then (⟨#[121]⟩, true)
  else if k = 5 then (⟨#[105, 112, 116, 101, 107]⟩, true)
  else if k = 6 then (⟨#[105, 121, 107]⟩, true)
  else if k = 7 then (⟨#[105, 112, 115]⟩, true)
  else if k = 8 then (⟨#[105]⟩, true)
  else if k = 9 then (⟨#[107]⟩, true)
  else if k = 10 then (⟨#[107]⟩, true)
  else (⟨#[]⟩, false)

theorem msgMay_look (k : Int) : imLook msgMayT k = if (msgMay k).2 = true then some (.string (msgMay k).1) else none := by
  by_cases h1 : k = 1
  · rw [h1]; rfl
  by_cases h2 : k = 2
  · rw [h2]; rfl
  by_cases h3 : k = 3
  · rw [h3]; rfl
  by_cases h4 : k = 4
  · rw [h4]; rfl
  by_cases h5 : k = 5
  · rw [h5]; rfl
  by_cases h6 : k = 6
  · rw [h6]; rfl
  by_cases h7 : k = 7
  · rw [h7]; rfl
  by_cases h8 : k = 8
  · rw [h8]; rfl
  by_cases h9 : k = 9
  · rw [h9]; rfl
  by_cases h10 : k = 10
  · rw [h10]; rfl
  simp [msgMay, msgMayT, imLook, h1, h2, h3, h4, h5, h6, h7, h8, h9, h10]

theorem msgMay_no (k : Int) (h : (msgMay k).2 = false) : (msgMay k).1 = ⟨#[]⟩ := by
  by_cases h1 : k = 1
  · rw [h1] at h; exact absurd h (by decide)
  by_cases h2 : k = 2
  · rw [h2] at h; exact absurd h (by decide)
  by_cases h3 : k = 3
  · rw [h3] at h; exact absurd h (by decide)
  by_cases h4 : k = 4
  · rw [h4] at h; exact absurd h (by decide)
  by_cases h5 : k = 5
  · rw [h5] at h; exact absurd h (by decide)
  by_cases h6 : k = 6
  · rw [h6] at h; exact absurd h (by decide)
  by_cases h7 : k = 7
  · rw [h7] at h; exact absurd h (by decide)
  by_cases h8 : k = 8
  · rw [h8] at h; exact absurd h (by decide)
  by_cases h9 : k = 9
  · rw [h9] at h; exact absurd h (by decide)
  by_cases h10 : k = 10
  · rw [h10] at h; exact absurd h (by decide)
  simp [msgMay, h1, h2, h3, h4, h5, h6, h7, h8, h9, h10]

set_option maxRecDepth 100000 in
set_option maxHeartbeats 2000000 in
theorem eMsgFields (k : Int) (w : World) :
    Calls Tryd.prog 69 #[.int .i64 k] w fun e w' => e = .returned (.tuple #[.string (msgMay k).1, .bool (msgMay k).2]) ∧ Fr [] w w' := by
  have Hres := Lib.hid (msgMay_look k)
  have HE := Lib.hid (msgMay_no k)
  generalize msgMay k = x at *
  obtain ⟨s, b⟩ := x
  cases b with
  | true =>
    have Hres' : Hid (imLook msgMayT k = some (.string s)) := Hres
    clear Hres
    have Hres := Hres'
    clear Hres' HE
    go_enter Tryd.func69, Tryd.ntmps69
    go_wp2_with (first | (refine wpList_makeMap 105 .i64 ?_; intro m w0 HM HO F0; have HF : Hid (Fr [m] w0 w0) := Fr.refl _ _) | (refine wpList_insertF 105 3 9 Tryd.underlying105 .i64 Tryd.underlying3 (.tmp 7) _ _ _ _ _ _ _ rfl rfl rfl HO HF rfl ?_; clear HO HF; intro wn HO HF) | (refine wpList_look 105 3 9 Tryd.underlying105 .i64 Tryd.underlying3 (.string ⟨#[]⟩) strZero (.tmp 10) (.tmp 11) _ _ _ rfl rfl HO true _ Hres.out ?_))
    go_ret2
    exact ⟨rfl, (F0.out.trans HF.out (by have := HM.out; simp; omega))⟩
  | false =>
    have Hres' : Hid (imLook msgMayT k = none) := Hres
    obtain rfl : s = ⟨#[]⟩ := HE.out rfl
    clear Hres HE
    have Hres := Hres'
    clear Hres'
    go_enter Tryd.func69, Tryd.ntmps69
    go_wp2_with (first | (refine wpList_makeMap 105 .i64 ?_; intro m w0 HM HO F0; have HF : Hid (Fr [m] w0 w0) := Fr.refl _ _) | (refine wpList_insertF 105 3 9 Tryd.underlying105 .i64 Tryd.underlying3 (.tmp 7) _ _ _ _ _ _ _ rfl rfl rfl HO HF rfl ?_; clear HO HF; intro wn HO HF) | (refine wpList_look 105 3 9 Tryd.underlying105 .i64 Tryd.underlying3 (.string ⟨#[]⟩) strZero (.tmp 10) (.tmp 11) _ _ _ rfl rfl HO true _ Hres.out ?_))
    go_ret2
    exact ⟨rfl, (F0.out.trans HF.out (by have := HM.out; simp; omega))⟩

def entMayT : List (Int × Value) := [(0, .string ⟨#[]⟩), (1, .string ⟨#[99, 98, 100]⟩), (2, .string ⟨#[99, 98, 109]⟩), (3, .string ⟨#[99, 109]⟩), (4, .string ⟨#[99]⟩), (5, .string ⟨#[110]⟩), (6, .string ⟨#[110]⟩), (7, .string ⟨#[110, 108]⟩), (8, .string ⟨#[]⟩), (9, .string ⟨#[]⟩), (10, .string ⟨#[]⟩), (11, .string ⟨#[99, 98, 100, 111]⟩)]
def entMay (k : Int) : ByteArray × Bool :=
  if k = 0 then (⟨#[]⟩, true)
  else if k = 1 then (⟨#[99, 98, 100]⟩, true)
  else if k = 2 then (⟨#[99, 98, 109]⟩, true)
  else if k = 3 then (⟨#[99, 109]⟩, true)
  else if k = 4 then (⟨#[99]⟩, true)
  else if k = 5 then (⟨#[110]⟩, true)
  else if k = 6 then (⟨#[110]⟩, true)
  else if k = 7 then (⟨#[110, 108]⟩, true)
  else if k = 8 then (⟨#[]⟩, true)
  else if k = 9 then (⟨#[]⟩, true)
  else if k = 10 then (⟨#[]⟩, true)
  else if k = 11 then (⟨#[99, 98, 100, 111]⟩, true)
  else (⟨#[]⟩, false)

theorem entMay_look (k : Int) : imLook entMayT k = if (entMay k).2 = true then some (.string (entMay k).1) else none := by
  by_cases h0 : k = 0
  · rw [h0]; rfl
  by_cases h1 : k = 1
  · rw [h1]; rfl
  by_cases h2 : k = 2
  · rw [h2]; rfl
  by_cases h3 : k = 3
  · rw [h3]; rfl
  by_cases h4 : k = 4
  · rw [h4]; rfl
  by_cases h5 : k = 5
  · rw [h5]; rfl
  by_cases h6 : k = 6
  · rw [h6]; rfl
  by_cases h7 : k = 7
  · rw [h7]; rfl
  by_cases h8 : k = 8
  · rw [h8]; rfl
  by_cases h9 : k = 9
  · rw [h9]; rfl
  by_cases h10 : k = 10
  · rw [h10]; rfl
  by_cases h11 : k = 11
  · rw [h11]; rfl
  simp [entMay, entMayT, imLook, h0, h1, h2, h3, h4, h5, h6, h7, h8, h9, h10, h11]

theorem entMay_no (k : Int) (h : (entMay k).2 = false) : (entMay k).1 = ⟨#[]⟩ := by
  by_cases h0 : k = 0
  · rw [h0] at h; exact absurd h (by decide)
  by_cases h1 : k = 1
  · rw [h1] at h; exact absurd h (by decide)
  by_cases h2 : k = 2
  · rw [h2] at h; exact absurd h (by decide)
  by_cases h3 : k = 3
  · rw [h3] at h; exact absurd h (by decide)
  by_cases h4 : k = 4
  · rw [h4] at h; exact absurd h (by decide)
  by_cases h5 : k = 5
  · rw [h5] at h; exact absurd h (by decide)
  by_cases h6 : k = 6
  · rw [h6] at h; exact absurd h (by decide)
  by_cases h7 : k = 7
  · rw [h7] at h; exact absurd h (by decide)
  by_cases h8 : k = 8
  · rw [h8] at h; exact absurd h (by decide)
  by_cases h9 : k = 9
  · rw [h9] at h; exact absurd h (by decide)
  by_cases h10 : k = 10
  · rw [h10] at h; exact absurd h (by decide)
  by_cases h11 : k = 11
  · rw [h11] at h; exact absurd h (by decide)
  simp [entMay, h0, h1, h2, h3, h4, h5, h6, h7, h8, h9, h10, h11]

set_option maxRecDepth 100000 in
set_option maxHeartbeats 2000000 in
theorem eFields (k : Int) (w : World) :
    Calls Tryd.prog 50 #[.int .i64 k] w fun e w' => e = .returned (.tuple #[.string (entMay k).1, .bool (entMay k).2]) ∧ Fr [] w w' := by
  have Hres := Lib.hid (entMay_look k)
  have HE := Lib.hid (entMay_no k)
  generalize entMay k = x at *
  obtain ⟨s, b⟩ := x
  cases b with
  | true =>
    have Hres' : Hid (imLook entMayT k = some (.string s)) := Hres
    clear Hres
    have Hres := Hres'
    clear Hres' HE
    go_enter Tryd.func50, Tryd.ntmps50
    go_wp2_with (first | (refine wpList_makeMap 105 .i64 ?_; intro m w0 HM HO F0; have HF : Hid (Fr [m] w0 w0) := Fr.refl _ _) | (refine wpList_insertF 105 3 9 Tryd.underlying105 .i64 Tryd.underlying3 (.tmp 7) _ _ _ _ _ _ _ rfl rfl rfl HO HF rfl ?_; clear HO HF; intro wn HO HF) | (refine wpList_look 105 3 9 Tryd.underlying105 .i64 Tryd.underlying3 (.string ⟨#[]⟩) strZero (.tmp 10) (.tmp 11) _ _ _ rfl rfl HO true _ Hres.out ?_))
    go_ret2
    exact ⟨rfl, (F0.out.trans HF.out (by have := HM.out; simp; omega))⟩
  | false =>
    have Hres' : Hid (imLook entMayT k = none) := Hres
    obtain rfl : s = ⟨#[]⟩ := HE.out rfl
    clear Hres HE
    have Hres := Hres'
    clear Hres'
    go_enter Tryd.func50, Tryd.ntmps50
    go_wp2_with (first | (refine wpList_makeMap 105 .i64 ?_; intro m w0 HM HO F0; have HF : Hid (Fr [m] w0 w0) := Fr.refl _ _) | (refine wpList_insertF 105 3 9 Tryd.underlying105 .i64 Tryd.underlying3 (.tmp 7) _ _ _ _ _ _ _ rfl rfl rfl HO HF rfl ?_; clear HO HF; intro wn HO HF) | (refine wpList_look 105 3 9 Tryd.underlying105 .i64 Tryd.underlying3 (.string ⟨#[]⟩) strZero (.tmp 10) (.tmp 11) _ _ _ rfl rfl HO true _ Hres.out ?_))
    go_ret2
    exact ⟨rfl, (F0.out.trans HF.out (by have := HM.out; simp; omega))⟩
end Go.Proofs.YthfaaoeecajkeaaDoor
