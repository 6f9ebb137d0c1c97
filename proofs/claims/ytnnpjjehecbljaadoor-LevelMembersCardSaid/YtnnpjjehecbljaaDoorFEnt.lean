/-
  entry: contracts of the small functions and of the two tables.
-/
import Derived.Test.YtnnpjjehecbljaaDoorFMap
import Derived.Test.YtnnpjjehecbljaaDoorRows
import Derived.KernelRfl
namespace Go.Proofs.YtnnpjjehecbljaaDoor
open Go.RowKit

/-! ### entries and messages as data -/
structure Ent where
  term : Int
  index : Int
  kind : Int
  client : Int
  seq : Int
  block : Int
  many : Int
  node : Int
  level : Int
  data : ByteArray
  old : ByteArray

def Ent.cells (e : Ent) : Array Value := #[.int .u64 e.term, .int .u64 e.index, .int .i64 e.kind, .int .u64 e.client, .int .u64 e.seq, .int .u64 e.block, .int .u64 e.many, .int .i64 e.node, .int .i64 e.level, .string e.data, .string e.old]

def U64 (n : Int) : Prop := 0 ≤ n ∧ n < 18446744073709551616
structure Ent.Fits (e : Ent) : Prop where
  term : U64 e.term
  index : U64 e.index
  client : U64 e.client
  seq : U64 e.seq
  block : U64 e.block
  many : U64 e.many
  data : e.data.size ≤ maxLen
  old : e.old.size ≤ maxLen

/-- A slice that reads as these entries. -/
def Ents (w : World) (v : Value) (l : List Ent) : Prop :=
  (l = [] ∧ ∃ a c, v = .slice a 0 c) ∨
  ∃ b o c, v = .slice (some ⟨b, o, none⟩) l.length c ∧ b < w.heap.size ∧ ∀ j (hj : j < l.length) i, i < 11 → w.cell? ⟨b, o + j * 11 + i, none⟩ = l[j].cells[i]?

theorem Ents.fr {S : List Nat} {w w' : World} {v : Value} {l : List Ent} (h : Ents w v l) (hf : Fr S w w') (hn : ∀ b, v.ownBlock = some b → b ∉ S) : Ents w' v l := by
  rcases h with h | ⟨b, o, c, rfl, hb, h⟩
  · exact .inl h
  · refine .inr ⟨b, o, c, rfl, Nat.lt_of_lt_of_le hb hf.size, fun j hj i hi => ?_⟩
    rw [← h j hj i hi]
    exact World.cell?_of_block (w := w) (hf.block b hb (hn b rfl))
theorem Ents.fr0 {w w' : World} {v : Value} {l : List Ent} (h : Ents w v l) (hf : Fr [] w w') : Ents w' v l := h.fr hf (fun _ _ => by simp)

theorem strZero : ∀ w, (zeroValue 9).run Tryd.prog w = .ok (.string ⟨#[]⟩) w := fun _ => by kernel_rfl

def nodeB (n : Int) : Bool := decide (1 ≤ n) && decide (n ≤ 7)
def smallB (n : Int) : Bool := n / 4294967296 == 0

set_option maxHeartbeats 400000 in
theorem eNode (n : Int) (w : World) : Calls Tryd.prog 37 #[.int .i64 n] w fun e w' => e = .returned (.bool (nodeB n)) ∧ w = w' := by
  go_enter Tryd.func37, Tryd.ntmps37
  go_wp2
  all_goals go_ret
  all_goals refine ⟨?_, rfl⟩
  all_goals simp [nodeB, *]
  all_goals omega

set_option maxHeartbeats 400000 in
theorem eSmall (n : Int) (w : World) (_h0 : 0 ≤ n) (_h1 : n < 18446744073709551616) : Calls Tryd.prog 36 #[.int .u64 n] w fun e w' => e = .returned (.bool (smallB n)) ∧ w = w' := by
  go_enter Tryd.func36, Tryd.ntmps36
  go_wp2
  go_ret
  exact ⟨by simp [smallB], rfl⟩

def msgMayT : List (Int × Value) := [(1, .string ⟨#[105, 112]⟩), (2, .string ⟨#[121]⟩), (3, .string ⟨#[105, 112]⟩), (4, .string ⟨#[121]⟩), (5, .string ⟨#[105, 112, 116, 101, 107]⟩), (6, .string ⟨#[105, 121, 107]⟩), (7, .string ⟨#[105, 112, 115]⟩), (8, .string ⟨#[105]⟩), (9, .string ⟨#[107]⟩), (10, .string ⟨#[107]⟩)]
def msgMay (k : Int) : ByteArray × Bool :=
  if k = 1 then (⟨#[105, 112]⟩, true)
  else if k = 2 then (⟨#[121]⟩, true)
  else if k = 3 then (⟨#[105, 112]⟩, true)
  else if k = 4 then (⟨#[121]⟩, true)
  else if k = 5 then (⟨#[105, 112, 116, 101, 107]⟩, true)
  else if k = 6 then (⟨#[105, 121, 107]⟩, true)
  else if k = 7 then (⟨#[105, 112, 115]⟩, true)
  else if k = 8 then (⟨#[105]⟩, true)
  else if k = 9 then (⟨#[107]⟩, true)
  else if k = 10 then (⟨#[107]⟩, true)
  else (⟨#[]⟩, false)

theorem msgMay_look (k : Int) : imLook msgMayT k = if (msgMay k).2 = true then some (.string (msgMay k).1) else none := by
  by_cases h1 : k = 1
  · rw [h1]; rfl
  by_cases h2 : k = 2
  · rw [h2]; rfl
  by_cases h3 : k = 3
  · rw [h3]; rfl
  by_cases h4 : k = 4
  · rw [h4]; rfl
  by_cases h5 : k = 5
  · rw [h5]; rfl
  by_cases h6 : k = 6
  · rw [h6]; rfl
  by_cases h7 : k = 7
  · rw [h7]; rfl
  by_cases h8 : k = 8
  · rw [h8]; rfl
  by_cases h9 : k = 9
  · rw [h9]; rfl
  by_cases h10 : k = 10
  · rw [h10]; rfl
  simp [msgMay, msgMayT, imLook, h1, h2, h3, h4, h5, h6, h7, h8, h9, h10]

theorem msgMay_no (k : Int) (h : (msgMay k).2 = false) : (msgMay k).1 = ⟨#[]⟩ := by
  by_cases h1 : k = 1
  · rw [h1] at h; exact absurd h (by decide)
  by_cases h2 : k = 2
  · rw [h2] at h; exact absurd h (by decide)
  by_cases h3 : k = 3
  · rw [h3] at h; exact absurd h (by decide)
  by_cases h4 : k = 4
  · rw [h4] at h; exact absurd h (by decide)
  by_cases h5 : k = 5
  · rw [h5] at h; exact absurd h (by decide)
  by_cases h6 : k = 6
  · rw [h6] at h; exact absurd h (by decide)
  by_cases h7 : k = 7
  · rw [h7] at h; exact absurd h (by decide)
  by_cases h8 : k = 8
  · rw [h8] at h; exact absurd h (by decide)
  by_cases h9 : k = 9
  · rw [h9] at h; exact absurd h (by decide)
  by_cases h10 : k = 10
  · rw [h10] at h; exact absurd h (by decide)
  simp [msgMay, h1, h2, h3, h4, h5, h6, h7, h8, h9, h10]


def entMayT : List (Int × Value) := [(0, .string ⟨#[]⟩), (1, .string ⟨#[99, 98, 100]⟩), (2, .string ⟨#[99, 98, 109]⟩), (3, .string ⟨#[99, 109]⟩), (4, .string ⟨#[99]⟩), (5, .string ⟨#[110]⟩), (6, .string ⟨#[110]⟩), (7, .string ⟨#[110, 108]⟩), (8, .string ⟨#[]⟩), (9, .string ⟨#[]⟩), (10, .string ⟨#[]⟩), (11, .string ⟨#[99, 98, 100, 111]⟩)]
def entMay (k : Int) : ByteArray × Bool :=
  if k = 0 then (⟨#[]⟩, true)
  else if k = 1 then (⟨#[99, 98, 100]⟩, true)
  else if k = 2 then (⟨#[99, 98, 109]⟩, true)
  else if k = 3 then (⟨#[99, 109]⟩, true)
  else if k = 4 then (⟨#[99]⟩, true)
  else if k = 5 then (⟨#[110]⟩, true)
  else if k = 6 then (⟨#[110]⟩, true)
  else if k = 7 then (⟨#[110, 108]⟩, true)
  else if k = 8 then (⟨#[]⟩, true)
  else if k = 9 then (⟨#[]⟩, true)
  else if k = 10 then (⟨#[]⟩, true)
  else if k = 11 then (⟨#[99, 98, 100, 111]⟩, true)
  else (⟨#[]⟩, false)

theorem entMay_look (k : Int) : imLook entMayT k = if (entMay k).2 = true then some (.string (entMay k).1) else none := by
  by_cases h0 : k = 0
  · rw [h0]; rfl
  by_cases h1 : k = 1
  · rw [h1]; rfl
  by_cases h2 : k = 2
  · rw [h2]; rfl
  by_cases h3 : k = 3
  · rw [h3]; rfl
  by_cases h4 : k = 4
  · rw [h4]; rfl
  by_cases h5 : k = 5
  · rw [h5]; rfl
  by_cases h6 : k = 6
  · rw [h6]; rfl
  by_cases h7 : k = 7
  · rw [h7]; rfl
  by_cases h8 : k = 8
  · rw [h8]; rfl
  by_cases h9 : k = 9
  · rw [h9]; rfl
  by_cases h10 : k = 10
  · rw [h10]; rfl
  by_cases h11 : k = 11
  · rw [h11]; rfl
  simp [entMay, entMayT, imLook, h0, h1, h2, h3, h4, h5, h6, h7, h8, h9, h10, h11]

theorem entMay_no (k : Int) (h : (entMay k).2 = false) : (entMay k).1 = ⟨#[]⟩ := by
  by_cases h0 : k = 0
  · rw [h0] at h; exact absurd h (by decide)
  by_cases h1 : k = 1
  · rw [h1] at h; exact absurd h (by decide)
  by_cases h2 : k = 2
  · rw [h2] at h; exact absurd h (by decide)
  by_cases h3 : k = 3
  · rw [h3] at h; exact absurd h (by decide)
  by_cases h4 : k = 4
  · rw [h4] at h; exact absurd h (by decide)
  by_cases h5 : k = 5
  · rw [h5] at h; exact absurd h (by decide)
  by_cases h6 : k = 6
  · rw [h6] at h; exact absurd h (by decide)
  by_cases h7 : k = 7
  · rw [h7] at h; exact absurd h (by decide)
  by_cases h8 : k = 8
  · rw [h8] at h; exact absurd h (by decide)
  by_cases h9 : k = 9
  · rw [h9] at h; exact absurd h (by decide)
  by_cases h10 : k = 10
  · rw [h10] at h; exact absurd h (by decide)
  by_cases h11 : k = 11
  · rw [h11] at h; exact absurd h (by decide)
  simp [entMay, h0, h1, h2, h3, h4, h5, h6, h7, h8, h9, h10, h11]

set_option maxRecDepth 100000 in
set_option maxHeartbeats 2000000 in
theorem eFields (k : Int) (w : World) :
    Calls Tryd.prog 34 #[.int .i64 k] w fun e w' => e = .returned (.tuple #[.string (entMay k).1, .bool (entMay k).2]) ∧ Fr [] w w' := by
  have Hres := Lib.hid (entMay_look k)
  have HE := Lib.hid (entMay_no k)
  generalize entMay k = x at *
  obtain ⟨s, b⟩ := x
  cases b with
  | true =>
    have Hres' : Hid (imLook entMayT k = some (.string s)) := Hres
    clear Hres
    have Hres := Hres'
    clear Hres' HE
    go_enter Tryd.func34, Tryd.ntmps34
    go_wp2_with (first | (refine wpList_makeMap 93 .i64 ?_; intro m w0 HM HO F0; have HF : Hid (Fr [m] w0 w0) := Fr.refl _ _) | (refine wpList_insertF 93 3 9 Tryd.underlying93 .i64 Tryd.underlying3 (.tmp 7) _ _ _ _ _ _ _ rfl rfl rfl HO HF rfl ?_; clear HO HF; intro wn HO HF) | (refine wpList_look 93 3 9 Tryd.underlying93 .i64 Tryd.underlying3 (.string ⟨#[]⟩) strZero (.tmp 10) (.tmp 11) _ _ _ rfl rfl HO true _ Hres.out ?_))
    go_ret2
    exact ⟨rfl, (F0.out.trans HF.out (by have := HM.out; simp; omega))⟩
  | false =>
    have Hres' : Hid (imLook entMayT k = none) := Hres
    obtain rfl : s = ⟨#[]⟩ := HE.out rfl
    clear Hres HE
    have Hres := Hres'
    clear Hres'
    go_enter Tryd.func34, Tryd.ntmps34
    go_wp2_with (first | (refine wpList_makeMap 93 .i64 ?_; intro m w0 HM HO F0; have HF : Hid (Fr [m] w0 w0) := Fr.refl _ _) | (refine wpList_insertF 93 3 9 Tryd.underlying93 .i64 Tryd.underlying3 (.tmp 7) _ _ _ _ _ _ _ rfl rfl rfl HO HF rfl ?_; clear HO HF; intro wn HO HF) | (refine wpList_look 93 3 9 Tryd.underlying93 .i64 Tryd.underlying3 (.string ⟨#[]⟩) strZero (.tmp 10) (.tmp 11) _ _ _ rfl rfl HO true _ Hres.out ?_))
    go_ret2
    exact ⟨rfl, (F0.out.trans HF.out (by have := HM.out; simp; omega))⟩
end Go.Proofs.YtnnpjjehecbljaaDoor
