/-
  Texts of this seat, joined: RMr7 RMsg RSame RMdB RMd1.
-/
import Derived.Test.YtnnpjjehecbljaaGreatDoorV20
import Derived.Test.YtnnpjjehecbljaaGreatDoorV21
import Derived.Test.YtnnpjjehecbljaaGreatDoorV22
import Derived.Test.YtnnpjjehecbljaaGreatDoorVtk
set_option linter.unusedSimpArgs false
set_option linter.unusedVariables false
namespace Go.Proofs.YtnnpjjehecbljaaGreatDoor
open Go.RowKit

end Go.Proofs.YtnnpjjehecbljaaGreatDoor

namespace Go.Proofs.YtnnpjjehecbljaaGreatDoor
open Go.RowKit


/-- The program's own answer, by what is in a kind's letters. -/
def okMP (bi bp bt bk by' be bs : Bool) (n : Nat) (bad : Bool) (m : Msg) : Bool :=
  nodeB m.sent && nodeB m.goal && (if bi then true else !decide (0 < m.index)) && (if bp then true else !decide (0 < m.prev)) && (if bt then true else !decide (0 < m.commit)) && (if bk then true else !decide (0 < m.mark)) && (if by' then true else !m.yes) &&
  (if be then decide (n ≤ 64) && !bad else !decide (0 < n)) && (if bs then decide ((m.snap.size : Int) ≤ 16384) else m.snap.toList.isEmpty)

theorem empty_short2 {s : ByteArray} (h : s.toList.isEmpty = true) : decide ((s.size : Int) ≤ 16384) = true := by
  rw [List.isEmpty_iff, Lib.toList_data] at h
  have : s.size = 0 := by rw [Lib.size_eq, h]; rfl
  simp [this]

theorem okMRP (bi bp bt bk by' be bs : Bool) (n : Nat) (bad : Bool) (m : Msg) (hb : n = 0 → bad = false) : okMR bi bp bt bk by' be bs n bad m = okMP bi bp bt bk by' be bs n bad m := by
  have h1 : nodeB m.sent = (!decide (m.sent < 1) && !decide (7 < m.sent)) := by unfold nodeB; rw [Bool.eq_iff_iff]; simp
  have h2 : nodeB m.goal = (!decide (m.goal < 1) && !decide (7 < m.goal)) := by unfold nodeB; rw [Bool.eq_iff_iff]; simp
  have h3 : decide (64 < n) = !decide (n ≤ 64) := by rw [Bool.eq_iff_iff]; simp
  have h4 : (n == 0) = !decide (0 < n) := by rw [Bool.eq_iff_iff]; simp
  have h5 : decide (0 < n) = false → bad = false := fun h => hb (by simpa using h)
  have h6 : decide (0 < n) = false → decide (n ≤ 64) = true := by simp; omega
  have h7 : decide ((16384 : Int) < m.snap.size) = !decide ((m.snap.size : Int) ≤ 16384) := by rw [Bool.eq_iff_iff]; simp
  have h8 := empty_short2 (s := m.snap)
  unfold okMR okMP
  rw [h1, h2, h3, h4, h7]
  clear h1 h2 h3 h4 h7 hb
  generalize decide (m.sent < 1) = a1 at *
  generalize decide (7 < m.sent) = a2 at *
  generalize decide (m.goal < 1) = a3 at *
  generalize decide (7 < m.goal) = a4 at *
  generalize decide (n ≤ 64) = a5 at *
  generalize decide (0 < n) = a6 at *
  generalize decide ((m.snap.size : Int) ≤ 16384) = a7 at *
  generalize m.snap.toList.isEmpty = a8 at *
  generalize decide (0 < m.index) = b1 at *
  generalize decide (0 < m.prev) = b2 at *
  generalize decide (0 < m.commit) = b3 at *
  generalize decide (0 < m.mark) = b4 at *
  generalize m.yes = b5 at *
  cases a1 <;> cases a2 <;> cases a3 <;> cases a4 <;> simp_all <;> cases be <;> cases a5 <;> cases a6 <;> cases a7 <;> cases a8 <;> cases bs <;> simp_all <;> cases bi <;> cases bp <;> cases bt <;> cases bk <;> cases by' <;> simp_all <;> (first | rfl | ac_rfl | grind)

theorem okM_class {m : Msg} {may : ByteArray} {bi bp bt bk by' be bs : Bool} (hkind : msgMay m.kind = (may, true)) (hi : hasB may 105 = bi) (hp : hasB may 112 = bp) (ht : hasB may 116 = bt) (hk : hasB may 107 = bk) (hy : hasB may 121 = by') (he : hasB may 101 = be) (hs : hasB may 115 = bs) :
    m.ok = okMP bi bp bt bk by' be bs m.ents.length (m.ents.any (fun e => !e.ok)) m := by
  unfold Msg.ok fitB Msg.flds okMP
  rw [hkind]
  simp only [List.any_cons, List.any_nil, Fld.bad, hi, hp, ht, hk, hy, he, hs]
  generalize m.snap.toList.isEmpty = x1
  generalize decide (0 < m.index) = x3
  generalize decide (0 < m.prev) = x4
  generalize decide (0 < m.commit) = x5
  generalize decide (0 < m.mark) = x6
  generalize m.yes = x7
  generalize nodeB m.sent = x8
  generalize nodeB m.goal = x9
  generalize decide (m.ents.length ≤ 64) = y1
  generalize decide (0 < m.ents.length) = y2
  generalize m.ents.any (fun e => !e.ok) = y3
  generalize decide ((m.snap.size : Int) ≤ 16384) = y4
  cases bi <;> cases bp <;> cases bt <;> cases bk <;> cases by' <;> cases be <;> cases bs <;> simp [Bool.and_assoc, Bool.and_comm, Bool.and_left_comm]

end Go.Proofs.YtnnpjjehecbljaaGreatDoor

namespace Go.Proofs.YtnnpjjehecbljaaGreatDoor
open Go.RowKit

theorem entS2 {w : World} {b1 o1 b2 o2 k : Nat} {l : List Ent} (h1 : ∀ j (hj : j < l.length) i, i < 11 → w.cell? ⟨b1, o1 + j * 11 + i, none⟩ = l[j].cells[i]?) (h2 : ∀ j (hj : j < l.length) i, i < 11 → w.cell? ⟨b2, o2 + j * 11 + i, none⟩ = l[j].cells[i]?) (hk : k < l.length) {e : Ent} (he : l[k] = e) :
    (w.cell? ⟨b1, o1 + k * 11, none⟩ = some (.int .u64 e.term) ∧ w.cell? ⟨b1, o1 + k * 11 + 1, none⟩ = some (.int .u64 e.index) ∧ w.cell? ⟨b1, o1 + k * 11 + 2, none⟩ = some (.int .i64 e.kind) ∧ w.cell? ⟨b1, o1 + k * 11 + 3, none⟩ = some (.int .u64 e.client) ∧ w.cell? ⟨b1, o1 + k * 11 + 4, none⟩ = some (.int .u64 e.seq) ∧ w.cell? ⟨b1, o1 + k * 11 + 5, none⟩ = some (.int .u64 e.block) ∧ w.cell? ⟨b1, o1 + k * 11 + 6, none⟩ = some (.int .u64 e.many) ∧ w.cell? ⟨b1, o1 + k * 11 + 7, none⟩ = some (.int .i64 e.node) ∧ w.cell? ⟨b1, o1 + k * 11 + 8, none⟩ = some (.int .i64 e.level) ∧ w.cell? ⟨b1, o1 + k * 11 + 9, none⟩ = some (.string e.data) ∧ w.cell? ⟨b1, o1 + k * 11 + 10, none⟩ = some (.string e.old)) ∧
    (w.cell? ⟨b2, o2 + k * 11, none⟩ = some (.int .u64 e.term) ∧ w.cell? ⟨b2, o2 + k * 11 + 1, none⟩ = some (.int .u64 e.index) ∧ w.cell? ⟨b2, o2 + k * 11 + 2, none⟩ = some (.int .i64 e.kind) ∧ w.cell? ⟨b2, o2 + k * 11 + 3, none⟩ = some (.int .u64 e.client) ∧ w.cell? ⟨b2, o2 + k * 11 + 4, none⟩ = some (.int .u64 e.seq) ∧ w.cell? ⟨b2, o2 + k * 11 + 5, none⟩ = some (.int .u64 e.block) ∧ w.cell? ⟨b2, o2 + k * 11 + 6, none⟩ = some (.int .u64 e.many) ∧ w.cell? ⟨b2, o2 + k * 11 + 7, none⟩ = some (.int .i64 e.node) ∧ w.cell? ⟨b2, o2 + k * 11 + 8, none⟩ = some (.int .i64 e.level) ∧ w.cell? ⟨b2, o2 + k * 11 + 9, none⟩ = some (.string e.data) ∧ w.cell? ⟨b2, o2 + k * 11 + 10, none⟩ = some (.string e.old)) :=
  ⟨entCells h1 hk he, entCells h2 hk he⟩

end Go.Proofs.YtnnpjjehecbljaaGreatDoor

namespace Go.Proofs.YtnnpjjehecbljaaGreatDoor
open Go.RowKit

def nodeW (x : Int) : Int := wrap64 (wrap64 ((IntKind.u64.wrap x).tmod 7) + 1)
def levelW (x : Int) : Int := wrap64 (wrap64 ((IntKind.u64.wrap x).tmod 2) + 1)
def cutTo (n : Nat) (s : ByteArray) : ByteArray := s.extract 0 (min s.size n)
def has' (may : ByteArray) (c : Int) (a b : Int) : Int := if hasI may c = true then a else b
/-- What is made of an entry's parts. -/
def madeOf (e : Ent) : Ent :=
  let k := e.kind % 12
  let may := (entMay k).1
  ⟨e.term % 1000 + 1, e.index % 1000 + 1, k, has' may 99 (e.client % 5 + 1) 0, has' may 99 (e.seq % 9) 0, has' may 98 (e.block % 9) 0, has' may 109 (e.many % 9) 0, has' may 110 (nodeW e.node) 0, has' may 108 (levelW e.level) 0,
   if hasI may 100 = true then cutTo 64 e.data else ⟨#[]⟩, if hasI may 111 = true then cutTo 64 e.old else ⟨#[]⟩⟩

theorem rem12 (x r k : Int) (hr : x.tmod 12 = r) (hk : x % 12 = k) : (r < 0 → r + 12 = k) ∧ (0 ≤ r → r = k) ∧ -12 < r ∧ r < 12 := by
  subst hr; subst hk
  rcases Int.le_total 0 x with h | h
  · have h1 := Int.tmod_eq_emod_of_nonneg (b := 12) h
    omega
  · have h1 : x.tmod 12 = -((-x) % 12) := by
      rw [← Int.tmod_eq_emod_of_nonneg (by omega : 0 ≤ -x), Int.neg_tmod, Int.neg_neg]
    omega
theorem mn64 (n : Nat) : mnI (n : Int) 64 = ((min n 64 : Nat) : Int) := by
  unfold mnI
  split <;> omega
set_option maxHeartbeats 1000000 in
theorem made_as (e : Ent) (w : World) : Calls Tryz.prog 9 #[.agg #[.int .u64 e.term, .int .u64 e.index, .int .i64 e.kind, .int .u64 e.client, .int .u64 e.seq, .int .u64 e.block, .int .u64 e.many, .int .i64 e.node, .int .i64 e.level, .string e.data, .string e.old, .bool false]] w fun r w' => r = .returned (.agg #[.int .u64 e.term, .int .u64 e.index, .int .i64 e.kind, .int .u64 e.client, .int .u64 e.seq, .int .u64 e.block, .int .u64 e.many, .int .i64 e.node, .int .i64 e.level, .string e.data, .string e.old]) ∧ Fr [] w w' := by
  go_enter Tryz.func9, Tryz.ntmps9
  go_wp2
  refine bodyPost_ret (v := .agg #[.int .u64 e.term, .int .u64 e.index, .int .i64 e.kind, .int .u64 e.client, .int .u64 e.seq, .int .u64 e.block, .int .u64 e.many, .int .i64 e.node, .int .i64 e.level, .string e.data, .string e.old]) (by simp [results, Tryz.results9, go_sem]) rfl ⟨rfl, ?_⟩
  exact ((Fr.refl _ _).alloc _).alloc _
end Go.Proofs.YtnnpjjehecbljaaGreatDoor

namespace Go.Proofs.YtnnpjjehecbljaaGreatDoor
open List renaming getElem?_toArray → lg0, getElem?_cons_succ → lg1, getElem?_cons_zero → lg2, setIfInBounds_toArray → lt0', set_cons_zero → lt1', set_cons_succ → lt2'
open Go.RowKit

set_option maxRecDepth 100000 in
set_option maxHeartbeats 8000000 in
theorem made_none (e : Ent) (w : World) (he : e.Fits) (k : Int) (hk : e.kind % 12 = k) (hkind : entMay k = (⟨#[]⟩, true)) :
    Calls Tryz.prog 9 #[.agg #[.int .u64 e.term, .int .u64 e.index, .int .i64 e.kind, .int .u64 e.client, .int .u64 e.seq, .int .u64 e.block, .int .u64 e.many, .int .i64 e.node, .int .i64 e.level, .string e.data, .string e.old, .bool true]] w fun r w' => r = .returned (.agg (madeOf e).cells) ∧ Fr [] w w' := by
  obtain ⟨hT, hI, hC, hS, hB, hM, hD, hO⟩ := he
  unfold U64 maxLen at *
  obtain ⟨dn, hdn⟩ : ∃ dn, min e.data.size 64 = dn := ⟨_, rfl⟩
  obtain ⟨on, hon⟩ : ∃ on, min e.old.size 64 = on := ⟨_, rfl⟩
  have HRes : Hid ((Ending.returned (.agg #[.int .u64 (e.term % 1000 + 1), .int .u64 (e.index % 1000 + 1), .int .i64 k, .int .u64 0, .int .u64 0, .int .u64 0, .int .u64 0, .int .i64 0, .int .i64 0, .string ⟨#[]⟩, .string ⟨#[]⟩]) : Ending) = .returned (.agg (madeOf e).cells)) := by
    unfold madeOf Ent.cells has' cutTo nodeW levelW
    simp only [hk, hkind, hdn, hon]
    rfl
  have md := mn64 e.data.size
  have mo := mn64 e.old.size
  rw [hdn] at md
  rw [hon] at mo
  have hdl : dn ≤ e.data.size := by omega
  have hol : on ≤ e.old.size := by omega
  have HF := Lib.hid (rFields k)
  rw [hkind] at HF
  clear hkind hdn hon
  generalize (madeOf e).cells = RES at *
  obtain ⟨r, hr⟩ : ∃ r, e.kind.tmod 12 = r := ⟨_, rfl⟩
  obtain ⟨hr3, hr4, hr5, hr6⟩ := rem12 e.kind r k hr hk
  by_cases hneg : r < 0
  · have hrk := hr3 hneg
    clear hr3 hr4 hk
    go_enter Tryz.func9, Tryz.ntmps9
    go_wp2_with fail
    refine (HF.out _).mono ?_
    rintro r' w2 ⟨rfl, g2⟩
    have A1 : Fr [] w (w.alloc (.cells #[.int .u64 e.term, .int .u64 e.index, .int .i64 e.kind, .int .u64 e.client, .int .u64 e.seq, .int .u64 e.block, .int .u64 e.many, .int .i64 e.node, .int .i64 e.level, .string e.data, .string e.old, .bool true] 26)) := (Fr.refl _ _).alloc _
    have B3 : Blk w2 (w.heap.size + 1 + 1) e.cells 24 := by
      have h := Blk.fr0 (Blk.new ((w.alloc (.cells #[.int .u64 e.term, .int .u64 e.index, .int .i64 e.kind, .int .u64 e.client, .int .u64 e.seq, .int .u64 e.block, .int .u64 e.many, .int .i64 e.node, .int .i64 e.level, .string e.data, .string e.old, .bool true] 26)).alloc (.cells #[.int .u64 0, .int .u64 0, .int .i64 0, .int .u64 0, .int .u64 0, .int .u64 0, .int .u64 0, .int .i64 0, .int .i64 0, .string ⟨#[]⟩, .string ⟨#[]⟩] 24)) e.cells 24) g2
      rw [show ((w.alloc (.cells #[.int .u64 e.term, .int .u64 e.index, .int .i64 e.kind, .int .u64 e.client, .int .u64 e.seq, .int .u64 e.block, .int .u64 e.many, .int .i64 e.node, .int .i64 e.level, .string e.data, .string e.old, .bool true] 26)).alloc (.cells #[.int .u64 0, .int .u64 0, .int .i64 0, .int .u64 0, .int .u64 0, .int .u64 0, .int .u64 0, .int .i64 0, .int .i64 0, .string ⟨#[]⟩, .string ⟨#[]⟩] 24)).heap.size = w.heap.size + 1 + 1 by simp] at h
      exact h
    have B2 : Blk w2 (w.heap.size + 1) #[.int .u64 0, .int .u64 0, .int .i64 0, .int .u64 0, .int .u64 0, .int .u64 0, .int .u64 0, .int .i64 0, .int .i64 0, .string ⟨#[]⟩, .string ⟨#[]⟩] 24 := by
      have h := Blk.fr0 (Blk.alloc (Blk.new (w.alloc (.cells #[.int .u64 e.term, .int .u64 e.index, .int .i64 e.kind, .int .u64 e.client, .int .u64 e.seq, .int .u64 e.block, .int .u64 e.many, .int .i64 e.node, .int .i64 e.level, .string e.data, .string e.old, .bool true] 26)) #[.int .u64 0, .int .u64 0, .int .i64 0, .int .u64 0, .int .u64 0, .int .u64 0, .int .u64 0, .int .i64 0, .int .i64 0, .string ⟨#[]⟩, .string ⟨#[]⟩] 24) (.cells e.cells 24)) g2
      rw [show (w.alloc (.cells #[.int .u64 e.term, .int .u64 e.index, .int .i64 e.kind, .int .u64 e.client, .int .u64 e.seq, .int .u64 e.block, .int .u64 e.many, .int .i64 e.node, .int .i64 e.level, .string e.data, .string e.old, .bool true] 26)).heap.size = w.heap.size + 1 by simp] at h
      exact h
    have HF2 : Hid (Fr [] w w2) := ((A1.alloc _).alloc _).trans0 g2
    have hlt := B3.lt
    unfold Ent.cells at B3
    clear A1 g2
    generalize hX : w.heap.size = bx at *
    have HX := Lib.hid hX
    clear hX
    have f0 := B3.cellAt (i := 0) rfl
    have f0' := ca B3 0
    have q0 := ca B2 0
    have z0 := za B2 0
    have f1 := B3.cellAt (i := 1) rfl
    have f1' := ca B3 1
    have q1 := ca B2 1
    have z1 := za B2 1
    have f2 := B3.cellAt (i := 2) rfl
    have f2' := ca B3 2
    have q2 := ca B2 2
    have z2 := za B2 2
    have f3 := B3.cellAt (i := 3) rfl
    have f3' := ca B3 3
    have q3 := ca B2 3
    have z3 := za B2 3
    have f4 := B3.cellAt (i := 4) rfl
    have f4' := ca B3 4
    have q4 := ca B2 4
    have z4 := za B2 4
    have f5 := B3.cellAt (i := 5) rfl
    have f5' := ca B3 5
    have q5 := ca B2 5
    have z5 := za B2 5
    have f6 := B3.cellAt (i := 6) rfl
    have f6' := ca B3 6
    have q6 := ca B2 6
    have z6 := za B2 6
    have f7 := B3.cellAt (i := 7) rfl
    have f7' := ca B3 7
    have q7 := ca B2 7
    have z7 := za B2 7
    have f8 := B3.cellAt (i := 8) rfl
    have f8' := ca B3 8
    have q8 := ca B2 8
    have z8 := za B2 8
    have f9 := B3.cellAt (i := 9) rfl
    have f9' := ca B3 9
    have q9 := ca B2 9
    have z9 := za B2 9
    have f10 := B3.cellAt (i := 10) rfl
    have f10' := ca B3 10
    have q10 := ca B2 10
    have z10 := za B2 10
    have HB2 := Lib.hid B2
    clear B2 B3
    go_wp2_with fail
    refine wp_loop_rounds 1 ?_
    rw [rounds_succ]
    go_wp2_with fail
    have BF : Hid (Blk ((((((((((((w2.alloc (.cells #[.int .u64 (e.term % 1000 + 1), .int .u64 (e.index % 1000 + 1), .int .i64 k, .int .u64 0, .int .u64 0, .int .u64 0, .int .u64 0, .int .i64 0, .int .i64 0, .string ⟨#[]⟩, .string ⟨#[]⟩] 24)).setCell ⟨bx + 1, 0, none⟩ (.int .u64 (e.term % 1000 + 1))).setCell ⟨bx + 1, 1, none⟩ (.int .u64 (e.index % 1000 + 1))).setCell ⟨bx + 1, 2, none⟩ (.int .i64 k)).setCell ⟨bx + 1, 3, none⟩ (.int .u64 0)).setCell ⟨bx + 1, 4, none⟩ (.int .u64 0)).setCell ⟨bx + 1, 5, none⟩ (.int .u64 0)).setCell ⟨bx + 1, 6, none⟩ (.int .u64 0)).setCell ⟨bx + 1, 7, none⟩ (.int .i64 0)).setCell ⟨bx + 1, 8, none⟩ (.int .i64 0)).setCell ⟨bx + 1, 9, none⟩ (.string ⟨#[]⟩)).setCell ⟨bx + 1, 10, none⟩ (.string ⟨#[]⟩)) (bx + 1) #[.int .u64 (e.term % 1000 + 1), .int .u64 (e.index % 1000 + 1), .int .i64 k, .int .u64 0, .int .u64 0, .int .u64 0, .int .u64 0, .int .i64 0, .int .i64 0, .string ⟨#[]⟩, .string ⟨#[]⟩] 24) := Blk.put11 (HB2.out.alloc (.cells #[.int .u64 (e.term % 1000 + 1), .int .u64 (e.index % 1000 + 1), .int .i64 k, .int .u64 0, .int .u64 0, .int .u64 0, .int .u64 0, .int .i64 0, .int .i64 0, .string ⟨#[]⟩, .string ⟨#[]⟩] 24)) (.int .u64 (e.term % 1000 + 1)) (.int .u64 (e.index % 1000 + 1)) (.int .i64 k) (.int .u64 0) (.int .u64 0) (.int .u64 0) (.int .u64 0) (.int .i64 0) (.int .i64 0) (.string ⟨#[]⟩) (.string ⟨#[]⟩)
    have FF : Hid (Fr [] w ((((((((((((w2.alloc (.cells #[.int .u64 (e.term % 1000 + 1), .int .u64 (e.index % 1000 + 1), .int .i64 k, .int .u64 0, .int .u64 0, .int .u64 0, .int .u64 0, .int .i64 0, .int .i64 0, .string ⟨#[]⟩, .string ⟨#[]⟩] 24)).setCell ⟨bx + 1, 0, none⟩ (.int .u64 (e.term % 1000 + 1))).setCell ⟨bx + 1, 1, none⟩ (.int .u64 (e.index % 1000 + 1))).setCell ⟨bx + 1, 2, none⟩ (.int .i64 k)).setCell ⟨bx + 1, 3, none⟩ (.int .u64 0)).setCell ⟨bx + 1, 4, none⟩ (.int .u64 0)).setCell ⟨bx + 1, 5, none⟩ (.int .u64 0)).setCell ⟨bx + 1, 6, none⟩ (.int .u64 0)).setCell ⟨bx + 1, 7, none⟩ (.int .i64 0)).setCell ⟨bx + 1, 8, none⟩ (.int .i64 0)).setCell ⟨bx + 1, 9, none⟩ (.string ⟨#[]⟩)).setCell ⟨bx + 1, 10, none⟩ (.string ⟨#[]⟩))) := ((((((((((((HF2.out.alloc _).setCell (.inr (by have := HX.out; show w.heap.size ≤ bx + 1; omega)) _).setCell (.inr (by have := HX.out; show w.heap.size ≤ bx + 1; omega)) _).setCell (.inr (by have := HX.out; show w.heap.size ≤ bx + 1; omega)) _).setCell (.inr (by have := HX.out; show w.heap.size ≤ bx + 1; omega)) _).setCell (.inr (by have := HX.out; show w.heap.size ≤ bx + 1; omega)) _).setCell (.inr (by have := HX.out; show w.heap.size ≤ bx + 1; omega)) _).setCell (.inr (by have := HX.out; show w.heap.size ≤ bx + 1; omega)) _).setCell (.inr (by have := HX.out; show w.heap.size ≤ bx + 1; omega)) _).setCell (.inr (by have := HX.out; show w.heap.size ≤ bx + 1; omega)) _).setCell (.inr (by have := HX.out; show w.heap.size ≤ bx + 1; omega)) _).setCell (.inr (by have := HX.out; show w.heap.size ≤ bx + 1; omega)) _)
    clear f0 f0' q0 z0 f1 f1' q1 z1 f2 f2' q2 z2 f3 f3' q3 z3 f4 f4' q4 z4 f5 f5' q5 z5 f6 f6' q6 z6 f7 f7' q7 z7 f8 f8' q8 z8 f9 f9' q9 z9 f10 f10' q10 z10
    generalize ((((((((((((w2.alloc (.cells #[.int .u64 (e.term % 1000 + 1), .int .u64 (e.index % 1000 + 1), .int .i64 k, .int .u64 0, .int .u64 0, .int .u64 0, .int .u64 0, .int .i64 0, .int .i64 0, .string ⟨#[]⟩, .string ⟨#[]⟩] 24)).setCell ⟨bx + 1, 0, none⟩ (.int .u64 (e.term % 1000 + 1))).setCell ⟨bx + 1, 1, none⟩ (.int .u64 (e.index % 1000 + 1))).setCell ⟨bx + 1, 2, none⟩ (.int .i64 k)).setCell ⟨bx + 1, 3, none⟩ (.int .u64 0)).setCell ⟨bx + 1, 4, none⟩ (.int .u64 0)).setCell ⟨bx + 1, 5, none⟩ (.int .u64 0)).setCell ⟨bx + 1, 6, none⟩ (.int .u64 0)).setCell ⟨bx + 1, 7, none⟩ (.int .i64 0)).setCell ⟨bx + 1, 8, none⟩ (.int .i64 0)).setCell ⟨bx + 1, 9, none⟩ (.string ⟨#[]⟩)).setCell ⟨bx + 1, 10, none⟩ (.string ⟨#[]⟩)) = W at *
    have BF' := BF.out
    have y0 : W.cell? ⟨bx + 1, 0, none⟩ = some (.int .u64 (e.term % 1000 + 1)) := BF'.cellAt (i := 0) rfl
    have y1 : W.cell? ⟨bx + 1, 1, none⟩ = some (.int .u64 (e.index % 1000 + 1)) := BF'.cellAt (i := 1) rfl
    have y2 : W.cell? ⟨bx + 1, 2, none⟩ = some (.int .i64 k) := BF'.cellAt (i := 2) rfl
    have y3 : W.cell? ⟨bx + 1, 3, none⟩ = some (.int .u64 0) := BF'.cellAt (i := 3) rfl
    have y4 : W.cell? ⟨bx + 1, 4, none⟩ = some (.int .u64 0) := BF'.cellAt (i := 4) rfl
    have y5 : W.cell? ⟨bx + 1, 5, none⟩ = some (.int .u64 0) := BF'.cellAt (i := 5) rfl
    have y6 : W.cell? ⟨bx + 1, 6, none⟩ = some (.int .u64 0) := BF'.cellAt (i := 6) rfl
    have y7 : W.cell? ⟨bx + 1, 7, none⟩ = some (.int .i64 0) := BF'.cellAt (i := 7) rfl
    have y8 : W.cell? ⟨bx + 1, 8, none⟩ = some (.int .i64 0) := BF'.cellAt (i := 8) rfl
    have y9 : W.cell? ⟨bx + 1, 9, none⟩ = some (.string ⟨#[]⟩) := BF'.cellAt (i := 9) rfl
    have y10 : W.cell? ⟨bx + 1, 10, none⟩ = some (.string ⟨#[]⟩) := BF'.cellAt (i := 10) rfl
    refine bodyPost_ret (v := .agg #[.int .u64 (e.term % 1000 + 1), .int .u64 (e.index % 1000 + 1), .int .i64 k, .int .u64 0, .int .u64 0, .int .u64 0, .int .u64 0, .int .i64 0, .int .i64 0, .string ⟨#[]⟩, .string ⟨#[]⟩]) ?_ rfl ⟨?_, FF.out⟩
    · simp [results, Tryz.results9, go_sem, y0, y1, y2, y3, y4, y5, y6, y7, y8, y9, y10]
    · exact HRes.out
  · have hrk := hr4 (by omega)
    have hneg' : 0 ≤ r := by omega
    obtain rfl := hrk
    clear hr3 hr4 hneg hk
    go_enter Tryz.func9, Tryz.ntmps9
    go_wp2_with fail
    refine (HF.out _).mono ?_
    rintro r' w2 ⟨rfl, g2⟩
    have A1 : Fr [] w (w.alloc (.cells #[.int .u64 e.term, .int .u64 e.index, .int .i64 e.kind, .int .u64 e.client, .int .u64 e.seq, .int .u64 e.block, .int .u64 e.many, .int .i64 e.node, .int .i64 e.level, .string e.data, .string e.old, .bool true] 26)) := (Fr.refl _ _).alloc _
    have B3 : Blk w2 (w.heap.size + 1 + 1) e.cells 24 := by
      have h := Blk.fr0 (Blk.new ((w.alloc (.cells #[.int .u64 e.term, .int .u64 e.index, .int .i64 e.kind, .int .u64 e.client, .int .u64 e.seq, .int .u64 e.block, .int .u64 e.many, .int .i64 e.node, .int .i64 e.level, .string e.data, .string e.old, .bool true] 26)).alloc (.cells #[.int .u64 0, .int .u64 0, .int .i64 0, .int .u64 0, .int .u64 0, .int .u64 0, .int .u64 0, .int .i64 0, .int .i64 0, .string ⟨#[]⟩, .string ⟨#[]⟩] 24)) e.cells 24) g2
      rw [show ((w.alloc (.cells #[.int .u64 e.term, .int .u64 e.index, .int .i64 e.kind, .int .u64 e.client, .int .u64 e.seq, .int .u64 e.block, .int .u64 e.many, .int .i64 e.node, .int .i64 e.level, .string e.data, .string e.old, .bool true] 26)).alloc (.cells #[.int .u64 0, .int .u64 0, .int .i64 0, .int .u64 0, .int .u64 0, .int .u64 0, .int .u64 0, .int .i64 0, .int .i64 0, .string ⟨#[]⟩, .string ⟨#[]⟩] 24)).heap.size = w.heap.size + 1 + 1 by simp] at h
      exact h
    have B2 : Blk w2 (w.heap.size + 1) #[.int .u64 0, .int .u64 0, .int .i64 0, .int .u64 0, .int .u64 0, .int .u64 0, .int .u64 0, .int .i64 0, .int .i64 0, .string ⟨#[]⟩, .string ⟨#[]⟩] 24 := by
      have h := Blk.fr0 (Blk.alloc (Blk.new (w.alloc (.cells #[.int .u64 e.term, .int .u64 e.index, .int .i64 e.kind, .int .u64 e.client, .int .u64 e.seq, .int .u64 e.block, .int .u64 e.many, .int .i64 e.node, .int .i64 e.level, .string e.data, .string e.old, .bool true] 26)) #[.int .u64 0, .int .u64 0, .int .i64 0, .int .u64 0, .int .u64 0, .int .u64 0, .int .u64 0, .int .i64 0, .int .i64 0, .string ⟨#[]⟩, .string ⟨#[]⟩] 24) (.cells e.cells 24)) g2
      rw [show (w.alloc (.cells #[.int .u64 e.term, .int .u64 e.index, .int .i64 e.kind, .int .u64 e.client, .int .u64 e.seq, .int .u64 e.block, .int .u64 e.many, .int .i64 e.node, .int .i64 e.level, .string e.data, .string e.old, .bool true] 26)).heap.size = w.heap.size + 1 by simp] at h
      exact h
    have HF2 : Hid (Fr [] w w2) := ((A1.alloc _).alloc _).trans0 g2
    have hlt := B3.lt
    unfold Ent.cells at B3
    clear A1 g2
    generalize hX : w.heap.size = bx at *
    have HX := Lib.hid hX
    clear hX
    have f0 := B3.cellAt (i := 0) rfl
    have f0' := ca B3 0
    have q0 := ca B2 0
    have z0 := za B2 0
    have f1 := B3.cellAt (i := 1) rfl
    have f1' := ca B3 1
    have q1 := ca B2 1
    have z1 := za B2 1
    have f2 := B3.cellAt (i := 2) rfl
    have f2' := ca B3 2
    have q2 := ca B2 2
    have z2 := za B2 2
    have f3 := B3.cellAt (i := 3) rfl
    have f3' := ca B3 3
    have q3 := ca B2 3
    have z3 := za B2 3
    have f4 := B3.cellAt (i := 4) rfl
    have f4' := ca B3 4
    have q4 := ca B2 4
    have z4 := za B2 4
    have f5 := B3.cellAt (i := 5) rfl
    have f5' := ca B3 5
    have q5 := ca B2 5
    have z5 := za B2 5
    have f6 := B3.cellAt (i := 6) rfl
    have f6' := ca B3 6
    have q6 := ca B2 6
    have z6 := za B2 6
    have f7 := B3.cellAt (i := 7) rfl
    have f7' := ca B3 7
    have q7 := ca B2 7
    have z7 := za B2 7
    have f8 := B3.cellAt (i := 8) rfl
    have f8' := ca B3 8
    have q8 := ca B2 8
    have z8 := za B2 8
    have f9 := B3.cellAt (i := 9) rfl
    have f9' := ca B3 9
    have q9 := ca B2 9
    have z9 := za B2 9
    have f10 := B3.cellAt (i := 10) rfl
    have f10' := ca B3 10
    have q10 := ca B2 10
    have z10 := za B2 10
    have HB2 := Lib.hid B2
    clear B2 B3
    go_wp2_with fail
    refine wp_loop_rounds 1 ?_
    rw [rounds_succ]
    go_wp2_with fail
    have BF : Hid (Blk ((((((((((((w2.alloc (.cells #[.int .u64 (e.term % 1000 + 1), .int .u64 (e.index % 1000 + 1), .int .i64 r, .int .u64 0, .int .u64 0, .int .u64 0, .int .u64 0, .int .i64 0, .int .i64 0, .string ⟨#[]⟩, .string ⟨#[]⟩] 24)).setCell ⟨bx + 1, 0, none⟩ (.int .u64 (e.term % 1000 + 1))).setCell ⟨bx + 1, 1, none⟩ (.int .u64 (e.index % 1000 + 1))).setCell ⟨bx + 1, 2, none⟩ (.int .i64 r)).setCell ⟨bx + 1, 3, none⟩ (.int .u64 0)).setCell ⟨bx + 1, 4, none⟩ (.int .u64 0)).setCell ⟨bx + 1, 5, none⟩ (.int .u64 0)).setCell ⟨bx + 1, 6, none⟩ (.int .u64 0)).setCell ⟨bx + 1, 7, none⟩ (.int .i64 0)).setCell ⟨bx + 1, 8, none⟩ (.int .i64 0)).setCell ⟨bx + 1, 9, none⟩ (.string ⟨#[]⟩)).setCell ⟨bx + 1, 10, none⟩ (.string ⟨#[]⟩)) (bx + 1) #[.int .u64 (e.term % 1000 + 1), .int .u64 (e.index % 1000 + 1), .int .i64 r, .int .u64 0, .int .u64 0, .int .u64 0, .int .u64 0, .int .i64 0, .int .i64 0, .string ⟨#[]⟩, .string ⟨#[]⟩] 24) := Blk.put11 (HB2.out.alloc (.cells #[.int .u64 (e.term % 1000 + 1), .int .u64 (e.index % 1000 + 1), .int .i64 r, .int .u64 0, .int .u64 0, .int .u64 0, .int .u64 0, .int .i64 0, .int .i64 0, .string ⟨#[]⟩, .string ⟨#[]⟩] 24)) (.int .u64 (e.term % 1000 + 1)) (.int .u64 (e.index % 1000 + 1)) (.int .i64 r) (.int .u64 0) (.int .u64 0) (.int .u64 0) (.int .u64 0) (.int .i64 0) (.int .i64 0) (.string ⟨#[]⟩) (.string ⟨#[]⟩)
    have FF : Hid (Fr [] w ((((((((((((w2.alloc (.cells #[.int .u64 (e.term % 1000 + 1), .int .u64 (e.index % 1000 + 1), .int .i64 r, .int .u64 0, .int .u64 0, .int .u64 0, .int .u64 0, .int .i64 0, .int .i64 0, .string ⟨#[]⟩, .string ⟨#[]⟩] 24)).setCell ⟨bx + 1, 0, none⟩ (.int .u64 (e.term % 1000 + 1))).setCell ⟨bx + 1, 1, none⟩ (.int .u64 (e.index % 1000 + 1))).setCell ⟨bx + 1, 2, none⟩ (.int .i64 r)).setCell ⟨bx + 1, 3, none⟩ (.int .u64 0)).setCell ⟨bx + 1, 4, none⟩ (.int .u64 0)).setCell ⟨bx + 1, 5, none⟩ (.int .u64 0)).setCell ⟨bx + 1, 6, none⟩ (.int .u64 0)).setCell ⟨bx + 1, 7, none⟩ (.int .i64 0)).setCell ⟨bx + 1, 8, none⟩ (.int .i64 0)).setCell ⟨bx + 1, 9, none⟩ (.string ⟨#[]⟩)).setCell ⟨bx + 1, 10, none⟩ (.string ⟨#[]⟩))) := ((((((((((((HF2.out.alloc _).setCell (.inr (by have := HX.out; show w.heap.size ≤ bx + 1; omega)) _).setCell (.inr (by have := HX.out; show w.heap.size ≤ bx + 1; omega)) _).setCell (.inr (by have := HX.out; show w.heap.size ≤ bx + 1; omega)) _).setCell (.inr (by have := HX.out; show w.heap.size ≤ bx + 1; omega)) _).setCell (.inr (by have := HX.out; show w.heap.size ≤ bx + 1; omega)) _).setCell (.inr (by have := HX.out; show w.heap.size ≤ bx + 1; omega)) _).setCell (.inr (by have := HX.out; show w.heap.size ≤ bx + 1; omega)) _).setCell (.inr (by have := HX.out; show w.heap.size ≤ bx + 1; omega)) _).setCell (.inr (by have := HX.out; show w.heap.size ≤ bx + 1; omega)) _).setCell (.inr (by have := HX.out; show w.heap.size ≤ bx + 1; omega)) _).setCell (.inr (by have := HX.out; show w.heap.size ≤ bx + 1; omega)) _)
    clear f0 f0' q0 z0 f1 f1' q1 z1 f2 f2' q2 z2 f3 f3' q3 z3 f4 f4' q4 z4 f5 f5' q5 z5 f6 f6' q6 z6 f7 f7' q7 z7 f8 f8' q8 z8 f9 f9' q9 z9 f10 f10' q10 z10
    generalize ((((((((((((w2.alloc (.cells #[.int .u64 (e.term % 1000 + 1), .int .u64 (e.index % 1000 + 1), .int .i64 r, .int .u64 0, .int .u64 0, .int .u64 0, .int .u64 0, .int .i64 0, .int .i64 0, .string ⟨#[]⟩, .string ⟨#[]⟩] 24)).setCell ⟨bx + 1, 0, none⟩ (.int .u64 (e.term % 1000 + 1))).setCell ⟨bx + 1, 1, none⟩ (.int .u64 (e.index % 1000 + 1))).setCell ⟨bx + 1, 2, none⟩ (.int .i64 r)).setCell ⟨bx + 1, 3, none⟩ (.int .u64 0)).setCell ⟨bx + 1, 4, none⟩ (.int .u64 0)).setCell ⟨bx + 1, 5, none⟩ (.int .u64 0)).setCell ⟨bx + 1, 6, none⟩ (.int .u64 0)).setCell ⟨bx + 1, 7, none⟩ (.int .i64 0)).setCell ⟨bx + 1, 8, none⟩ (.int .i64 0)).setCell ⟨bx + 1, 9, none⟩ (.string ⟨#[]⟩)).setCell ⟨bx + 1, 10, none⟩ (.string ⟨#[]⟩)) = W at *
    have BF' := BF.out
    have y0 : W.cell? ⟨bx + 1, 0, none⟩ = some (.int .u64 (e.term % 1000 + 1)) := BF'.cellAt (i := 0) rfl
    have y1 : W.cell? ⟨bx + 1, 1, none⟩ = some (.int .u64 (e.index % 1000 + 1)) := BF'.cellAt (i := 1) rfl
    have y2 : W.cell? ⟨bx + 1, 2, none⟩ = some (.int .i64 r) := BF'.cellAt (i := 2) rfl
    have y3 : W.cell? ⟨bx + 1, 3, none⟩ = some (.int .u64 0) := BF'.cellAt (i := 3) rfl
    have y4 : W.cell? ⟨bx + 1, 4, none⟩ = some (.int .u64 0) := BF'.cellAt (i := 4) rfl
    have y5 : W.cell? ⟨bx + 1, 5, none⟩ = some (.int .u64 0) := BF'.cellAt (i := 5) rfl
    have y6 : W.cell? ⟨bx + 1, 6, none⟩ = some (.int .u64 0) := BF'.cellAt (i := 6) rfl
    have y7 : W.cell? ⟨bx + 1, 7, none⟩ = some (.int .i64 0) := BF'.cellAt (i := 7) rfl
    have y8 : W.cell? ⟨bx + 1, 8, none⟩ = some (.int .i64 0) := BF'.cellAt (i := 8) rfl
    have y9 : W.cell? ⟨bx + 1, 9, none⟩ = some (.string ⟨#[]⟩) := BF'.cellAt (i := 9) rfl
    have y10 : W.cell? ⟨bx + 1, 10, none⟩ = some (.string ⟨#[]⟩) := BF'.cellAt (i := 10) rfl
    refine bodyPost_ret (v := .agg #[.int .u64 (e.term % 1000 + 1), .int .u64 (e.index % 1000 + 1), .int .i64 r, .int .u64 0, .int .u64 0, .int .u64 0, .int .u64 0, .int .i64 0, .int .i64 0, .string ⟨#[]⟩, .string ⟨#[]⟩]) ?_ rfl ⟨?_, FF.out⟩
    · simp [results, Tryz.results9, go_sem, y0, y1, y2, y3, y4, y5, y6, y7, y8, y9, y10]
    · exact HRes.out
end Go.Proofs.YtnnpjjehecbljaaGreatDoor
