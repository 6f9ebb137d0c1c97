/-
  Texts of this seat, joined: RSame RMdB RMd1 RMd2.
-/
import Derived.Test.YthfaaoeecajkeaaDoorW23
import Derived.Test.YthfaaoeecajkeaaDoorW15
import Derived.Test.YthfaaoeecajkeaaDoorWtk
set_option linter.unusedSimpArgs false
set_option linter.unusedVariables false
namespace Go.Proofs.YthfaaoeecajkeaaDoor
open Go.RowKit

theorem entS2 {w : World} {b1 o1 b2 o2 k : Nat} {l : List Ent} (h1 : ∀ j (hj : j < l.length) i, i < 11 → w.cell? ⟨b1, o1 + j * 11 + i, none⟩ = l[j].cells[i]?) (h2 : ∀ j (hj : j < l.length) i, i < 11 → w.cell? ⟨b2, o2 + j * 11 + i, none⟩ = l[j].cells[i]?) (hk : k < l.length) {e : Ent} (he : l[k] = e) :
    (w.cell? ⟨b1, o1 + k * 11, none⟩ = some (.int .u64 e.term) ∧ w.cell? ⟨b1, o1 + k * 11 + 1, none⟩ = some (.int .u64 e.index) ∧ w.cell? ⟨b1, o1 + k * 11 + 2, none⟩ = some (.int .i64 e.kind) ∧ w.cell? ⟨b1, o1 + k * 11 + 3, none⟩ = some (.int .u64 e.client) ∧ w.cell? ⟨b1, o1 + k * 11 + 4, none⟩ = some (.int .u64 e.seq) ∧ w.cell? ⟨b1, o1 + k * 11 + 5, none⟩ = some (.int .u64 e.block) ∧ w.cell? ⟨b1, o1 + k * 11 + 6, none⟩ = some (.int .u64 e.many) ∧ w.cell? ⟨b1, o1 + k * 11 + 7, none⟩ = some (.int .i64 e.node) ∧ w.cell? ⟨b1, o1 + k * 11 + 8, none⟩ = some (.int .i64 e.level) ∧ w.cell? ⟨b1, o1 + k * 11 + 9, none⟩ = some (.string e.data) ∧ w.cell? ⟨b1, o1 + k * 11 + 10, none⟩ = some (.string e.old)) ∧
    (w.cell? ⟨b2, o2 + k * 11, none⟩ = some (.int .u64 e.term) ∧ w.cell? ⟨b2, o2 + k * 11 + 1, none⟩ = some (.int .u64 e.index) ∧ w.cell? ⟨b2, o2 + k * 11 + 2, none⟩ = some (.int .i64 e.kind) ∧ w.cell? ⟨b2, o2 + k * 11 + 3, none⟩ = some (.int .u64 e.client) ∧ w.cell? ⟨b2, o2 + k * 11 + 4, none⟩ = some (.int .u64 e.seq) ∧ w.cell? ⟨b2, o2 + k * 11 + 5, none⟩ = some (.int .u64 e.block) ∧ w.cell? ⟨b2, o2 + k * 11 + 6, none⟩ = some (.int .u64 e.many) ∧ w.cell? ⟨b2, o2 + k * 11 + 7, none⟩ = some (.int .i64 e.node) ∧ w.cell? ⟨b2, o2 + k * 11 + 8, none⟩ = some (.int .i64 e.level) ∧ w.cell? ⟨b2, o2 + k * 11 + 9, none⟩ = some (.string e.data) ∧ w.cell? ⟨b2, o2 + k * 11 + 10, none⟩ = some (.string e.old)) :=
  ⟨entCells h1 hk he, entCells h2 hk he⟩

set_option maxRecDepth 100000 in
set_option maxHeartbeats 8000000 in
theorem rMsgSame (m : Msg) (v1 v2 : Value) (w : World) (hf : m.Fits) (hv1 : Ents w v1 m.ents) (hv2 : Ents w v2 m.ents) : Calls Tryd.prog 24 #[.agg (m.cells v1), .agg (m.cells v2)] w fun r w' => r = .returned (.bool true) ∧ Fr [] w w' := by
  obtain ⟨ad1, cp1, rfl⟩ := hv1.shape
  obtain ⟨ad2, cp2, rfl⟩ := hv2.shape
  have hmany := hf.many
  unfold maxLen at hmany
  have F0 : Fr [] w ((w.alloc (.cells (m.cells (.slice ad1 m.ents.length cp1)) 47)).alloc (.cells (m.cells (.slice ad2 m.ents.length cp2)) 47)) := ((Fr.refl _ _).alloc _).alloc _
  have B1 := Blk.alloc (Blk.new w (m.cells (.slice ad1 m.ents.length cp1)) 47) (.cells (m.cells (.slice ad2 m.ents.length cp2)) 47)
  have B2 := Blk.new (w.alloc (.cells (m.cells (.slice ad1 m.ents.length cp1)) 47)) (m.cells (.slice ad2 m.ents.length cp2)) 47
  rw [show (w.alloc (.cells (m.cells (.slice ad1 m.ents.length cp1)) 47)).heap.size = w.heap.size + 1 by simp] at B2
  have HV1 := Lib.hid (hv1.fr0 F0)
  have HV2 := Lib.hid (hv2.fr0 F0)
  have HC1 := Lib.hid (fun w3 (f : Fr [] _ w3) => And.intro ((B1.fr0 f).cellAt (i := 0) (v := .int .i64 m.kind) rfl) (And.intro ((B1.fr0 f).cellAt (i := 3) (v := .int .u64 m.term) rfl) (msgC (B1.fr0 f))))
  have HC2 := Lib.hid (fun w3 (f : Fr [] _ w3) => And.intro ((B2.fr0 f).cellAt (i := 0) (v := .int .i64 m.kind) rfl) (And.intro ((B2.fr0 f).cellAt (i := 3) (v := .int .u64 m.term) rfl) (msgC (B2.fr0 f))))
  have HF0 := Lib.hid F0
  clear B1 B2 F0 hv1 hv2 hf
  unfold Msg.cells at *
  generalize hn : m.ents.length = n at *
  have HNn := Lib.hid hn
  clear hn
  have k0 : (m.kind == m.kind) = true := by simp
  have k1 : (m.sent == m.sent) = true := by simp
  have k2 : (m.goal == m.goal) = true := by simp
  have k3 : (m.term == m.term) = true := by simp
  have k4 : (m.index == m.index) = true := by simp
  have k5 : (m.prev == m.prev) = true := by simp
  have k6 : (m.commit == m.commit) = true := by simp
  have k7 : (m.mark == m.mark) = true := by simp
  have k8 : (m.yes == m.yes) = true := by simp
  have k9 : ((n : Int) != (n : Int)) = false := by simp
  go_enter Tryd.func24, Tryd.ntmps24
  go_wp2_with fail
  generalize ((w.alloc (.cells #[.int .i64 m.kind, .int .i64 m.sent, .int .i64 m.goal, .int .u64 m.term, .int .u64 m.index, .int .u64 m.prev, .int .u64 m.commit, .int .u64 m.mark, .bool m.yes, .slice ad1 n cp1, .string m.snap] 47)).alloc (.cells #[.int .i64 m.kind, .int .i64 m.sent, .int .i64 m.goal, .int .u64 m.term, .int .u64 m.index, .int .u64 m.prev, .int .u64 m.commit, .int .u64 m.mark, .bool m.yes, .slice ad2 n cp2, .string m.snap] 47)) = w2 at *
  generalize w.heap.size = bx at *
  go_loopw [5] (fun i wr => ∃ k : Nat, k ≤ n ∧ i = .int .i64 k ∧ Hid (Fr [] w2 wr)) (fun i _ => n - (intOf i).toNat)
  case atStart => exact ⟨0, by omega, rfl, Fr.refl _ _⟩
  case round =>
    obtain ⟨k, hk, rfl, HR⟩ := hrel
    obtain ⟨p0, p3, p1, p2, p4, p5, p6, p7, p8, p9, p10⟩ := HC1.out _ HR.out
    obtain ⟨q0, q3, q1, q2, q4, q5, q6, q7, q8, q9, q10⟩ := HC2.out _ HR.out
    by_cases hlt : k < n
    · obtain ⟨b1, o1, had1⟩ : ∃ b o, ad1 = some ⟨b, o, none⟩ := by
        rcases HV1.out with ⟨h1, _⟩ | ⟨b, o, c, h1, _⟩
        · have := HNn.out; rw [h1] at this; simp at this; omega
        · injection h1 with h1; exact ⟨b, o, h1⟩
      obtain ⟨b2, o2, had2⟩ : ∃ b o, ad2 = some ⟨b, o, none⟩ := by
        rcases HV2.out with ⟨h1, _⟩ | ⟨b, o, c, h1, _⟩
        · have := HNn.out; rw [h1] at this; simp at this; omega
        · injection h1 with h1; exact ⟨b, o, h1⟩
      subst had1; subst had2
      have hlk : k < m.ents.length := by have := HNn.out; omega
      have hrow1 := (HV1.out.fr0 HR.out).row HNn.out (by omega)
      have hrow2 := (HV2.out.fr0 HR.out).row HNn.out (by omega)
      obtain ⟨e, he⟩ : ∃ e, m.ents[k] = e := ⟨_, rfl⟩
      obtain ⟨⟨d0, d1, d2, d3, d4, d5, d6, d7, d8, d9, d10⟩, g0, g1, g2, g3, g4, g5, g6, g7, g8, g9, g10⟩ := entS2 hrow1.2 hrow2.2 hlk he
      clear he hrow1 hrow2 hlk
      go_wp2_with fail
      go_quiet (fail)
      go_wp2_with fail
      go_roundw
      case rel => exact ⟨k + 1, by omega, by go_num, by first | exact HR.out.drewN _ | exact HR.out.drew⟩
      case measure => simp [intOf]; omega
    · go_wp2_with fail
      go_ret
      exact ⟨rfl, HF0.out.trans0 HR.out⟩
end Go.Proofs.YthfaaoeecajkeaaDoor

namespace Go.Proofs.YthfaaoeecajkeaaDoor
open Go.RowKit

def nodeW (x : Int) : Int := wrap64 (wrap64 ((IntKind.u64.wrap x).tmod 7) + 1)
def levelW (x : Int) : Int := wrap64 (wrap64 ((IntKind.u64.wrap x).tmod 2) + 1)
def cutTo (n : Nat) (s : ByteArray) : ByteArray := s.extract 0 (min s.size n)
def has' (may : ByteArray) (c : Int) (a b : Int) : Int := if hasI may c = true then a else b
/-- What is made of an entry's parts. -/
def madeOf (e : Ent) : Ent :=
  let k := e.kind % 12
  let may := (entMay k).1
  ⟨e.term % 1000 + 1, e.index % 1000 + 1, k, has' may 99 (e.client % 5 + 1) 0, has' may 99 (e.seq % 9) 0, has' may 98 (e.block % 9) 0, has' may 109 (e.many % 9) 0, has' may 110 (nodeW e.node) 0, has' may 108 (levelW e.level) 0,
   if hasI may 100 = true then cutTo 64 e.data else ⟨#[]⟩, if hasI may 111 = true then cutTo 64 e.old else ⟨#[]⟩⟩

theorem rem12 (x r k : Int) (hr : x.tmod 12 = r) (hk : x % 12 = k) : (r < 0 → r + 12 = k) ∧ (0 ≤ r → r = k) ∧ -12 < r ∧ r < 12 := by
  subst hr; subst hk
  rcases Int.le_total 0 x with h | h
  · have h1 := Int.tmod_eq_emod_of_nonneg (b := 12) h
    omega
  · have h1 : x.tmod 12 = -((-x) % 12) := by
      rw [← Int.tmod_eq_emod_of_nonneg (by omega : 0 ≤ -x), Int.neg_tmod, Int.neg_neg]
    omega
theorem mn64 (n : Nat) : mnI (n : Int) 64 = ((min n 64 : Nat) : Int) := by
  unfold mnI
  split <;> omega
set_option maxHeartbeats 1000000 in
theorem made_as (e : Ent) (w : World) : Calls Tryd.prog 9 #[.agg #[.int .u64 e.term, .int .u64 e.index, .int .i64 e.kind, .int .u64 e.client, .int .u64 e.seq, .int .u64 e.block, .int .u64 e.many, .int .i64 e.node, .int .i64 e.level, .string e.data, .string e.old, .bool false]] w fun r w' => r = .returned (.agg #[.int .u64 e.term, .int .u64 e.index, .int .i64 e.kind, .int .u64 e.client, .int .u64 e.seq, .int .u64 e.block, .int .u64 e.many, .int .i64 e.node, .int .i64 e.level, .string e.data, .string e.old]) ∧ Fr [] w w' := by
  go_enter Tryd.func9, Tryd.ntmps9
  go_wp2
  refine bodyPost_ret (v := .agg #[.int .u64 e.term, .int .u64 e.index, .int .i64 e.kind, .int .u64 e.client, .int .u64 e.seq, .int .u64 e.block, .int .u64 e.many, .int .i64 e.node, .int .i64 e.level, .string e.data, .string e.old]) (by simp [results, Tryd.results9, go_sem]) rfl ⟨rfl, ?_⟩
  exact ((Fr.refl _ _).alloc _).alloc _
end Go.Proofs.YthfaaoeecajkeaaDoor

namespace Go.Proofs.YthfaaoeecajkeaaDoor
open List renaming getElem?_toArray → lg0, getElem?_cons_succ → lg1, getElem?_cons_zero → lg2, setIfInBounds_toArray → lt0', set_cons_zero → lt1', set_cons_succ → lt2'
open Go.RowKit

set_option maxRecDepth 100000 in
set_option maxHeartbeats 8000000 in
theorem made_none (e : Ent) (w : World) (he : e.Fits) (k : Int) (hk : e.kind % 12 = k) (hkind : entMay k = (⟨#[]⟩, true)) :
    Calls Tryd.prog 9 #[.agg #[.int .u64 e.term, .int .u64 e.index, .int .i64 e.kind, .int .u64 e.client, .int .u64 e.seq, .int .u64 e.block, .int .u64 e.many, .int .i64 e.node, .int .i64 e.level, .string e.data, .string e.old, .bool true]] w fun r w' => r = .returned (.agg (madeOf e).cells) ∧ Fr [] w w' := by
  obtain ⟨hT, hI, hC, hS, hB, hM, hD, hO⟩ := he
  unfold U64 maxLen at *
  obtain ⟨dn, hdn⟩ : ∃ dn, min e.data.size 64 = dn := ⟨_, rfl⟩
  obtain ⟨on, hon⟩ : ∃ on, min e.old.size 64 = on := ⟨_, rfl⟩
  have HRes : Hid ((Ending.returned (.agg #[.int .u64 (e.term % 1000 + 1), .int .u64 (e.index % 1000 + 1), .int .i64 k, .int .u64 0, .int .u64 0, .int .u64 0, .int .u64 0, .int .i64 0, .int .i64 0, .string ⟨#[]⟩, .string ⟨#[]⟩]) : Ending) = .returned (.agg (madeOf e).cells)) := by
    unfold madeOf Ent.cells has' cutTo nodeW levelW
    simp only [hk, hkind, hdn, hon]
    rfl
  have md := mn64 e.data.size
  have mo := mn64 e.old.size
  rw [hdn] at md
  rw [hon] at mo
  have hdl : dn ≤ e.data.size := by omega
  have hol : on ≤ e.old.size := by omega
  have HF := Lib.hid (rFields k)
  rw [hkind] at HF
  clear hkind hdn hon
  generalize (madeOf e).cells = RES at *
  obtain ⟨r, hr⟩ : ∃ r, e.kind.tmod 12 = r := ⟨_, rfl⟩
  obtain ⟨hr3, hr4, hr5, hr6⟩ := rem12 e.kind r k hr hk
  by_cases hneg : r < 0
  · have hrk := hr3 hneg
    clear hr3 hr4 hk
    go_enter Tryd.func9, Tryd.ntmps9
    go_wp2_with fail
    refine (HF.out _).mono ?_
    rintro r' w2 ⟨rfl, g2⟩
    have A1 : Fr [] w (w.alloc (.cells #[.int .u64 e.term, .int .u64 e.index, .int .i64 e.kind, .int .u64 e.client, .int .u64 e.seq, .int .u64 e.block, .int .u64 e.many, .int .i64 e.node, .int .i64 e.level, .string e.data, .string e.old, .bool true] 26)) := (Fr.refl _ _).alloc _
    have B3 : Blk w2 (w.heap.size + 1 + 1) e.cells 24 := by
      have h := Blk.fr0 (Blk.new ((w.alloc (.cells #[.int .u64 e.term, .int .u64 e.index, .int .i64 e.kind, .int .u64 e.client, .int .u64 e.seq, .int .u64 e.block, .int .u64 e.many, .int .i64 e.node, .int .i64 e.level, .string e.data, .string e.old, .bool true] 26)).alloc (.cells #[.int .u64 0, .int .u64 0, .int .i64 0, .int .u64 0, .int .u64 0, .int .u64 0, .int .u64 0, .int .i64 0, .int .i64 0, .string ⟨#[]⟩, .string ⟨#[]⟩] 24)) e.cells 24) g2
      rw [show ((w.alloc (.cells #[.int .u64 e.term, .int .u64 e.index, .int .i64 e.kind, .int .u64 e.client, .int .u64 e.seq, .int .u64 e.block, .int .u64 e.many, .int .i64 e.node, .int .i64 e.level, .string e.data, .string e.old, .bool true] 26)).alloc (.cells #[.int .u64 0, .int .u64 0, .int .i64 0, .int .u64 0, .int .u64 0, .int .u64 0, .int .u64 0, .int .i64 0, .int .i64 0, .string ⟨#[]⟩, .string ⟨#[]⟩] 24)).heap.size = w.heap.size + 1 + 1 by simp] at h
      exact h
    have B2 : Blk w2 (w.heap.size + 1) #[.int .u64 0, .int .u64 0, .int .i64 0, .int .u64 0, .int .u64 0, .int .u64 0, .int .u64 0, .int .i64 0, .int .i64 0, .string ⟨#[]⟩, .string ⟨#[]⟩] 24 := by
      have h := Blk.fr0 (Blk.alloc (Blk.new (w.alloc (.cells #[.int .u64 e.term, .int .u64 e.index, .int .i64 e.kind, .int .u64 e.client, .int .u64 e.seq, .int .u64 e.block, .int .u64 e.many, .int .i64 e.node, .int .i64 e.level, .string e.data, .string e.old, .bool true] 26)) #[.int .u64 0, .int .u64 0, .int .i64 0, .int .u64 0, .int .u64 0, .int .u64 0, .int .u64 0, .int .i64 0, .int .i64 0, .string ⟨#[]⟩, .string ⟨#[]⟩] 24) (.cells e.cells 24)) g2
      rw [show (w.alloc (.cells #[.int .u64 e.term, .int .u64 e.index, .int .i64 e.kind, .int .u64 e.client, .int .u64 e.seq, .int .u64 e.block, .int .u64 e.many, .int .i64 e.node, .int .i64 e.level, .string e.data, .string e.old, .bool true] 26)).heap.size = w.heap.size + 1 by simp] at h
      exact h
    have HF2 : Hid (Fr [] w w2) := ((A1.alloc _).alloc _).trans0 g2
    have hlt := B3.lt
    unfold Ent.cells at B3
    clear A1 g2
    generalize hX : w.heap.size = bx at *
    have HX := Lib.hid hX
    clear hX
    have f0 := B3.cellAt (i := 0) rfl
    have f0' := ca B3 0
    have q0 := ca B2 0
    have z0 := za B2 0
    have f1 := B3.cellAt (i := 1) rfl
    have f1' := ca B3 1
    have q1 := ca B2 1
    have z1 := za B2 1
    have f2 := B3.cellAt (i := 2) rfl
    have f2' := ca B3 2
    have q2 := ca B2 2
    have z2 := za B2 2
    have f3 := B3.cellAt (i := 3) rfl
    have f3' := ca B3 3
    have q3 := ca B2 3
    have z3 := za B2 3
    have f4 := B3.cellAt (i := 4) rfl
    have f4' := ca B3 4
    have q4 := ca B2 4
    have z4 := za B2 4
    have f5 := B3.cellAt (i := 5) rfl
    have f5' := ca B3 5
    have q5 := ca B2 5
    have z5 := za B2 5
    have f6 := B3.cellAt (i := 6) rfl
    have f6' := ca B3 6
    have q6 := ca B2 6
    have z6 := za B2 6
    have f7 := B3.cellAt (i := 7) rfl
    have f7' := ca B3 7
    have q7 := ca B2 7
    have z7 := za B2 7
    have f8 := B3.cellAt (i := 8) rfl
    have f8' := ca B3 8
    have q8 := ca B2 8
    have z8 := za B2 8
    have f9 := B3.cellAt (i := 9) rfl
    have f9' := ca B3 9
    have q9 := ca B2 9
    have z9 := za B2 9
    have f10 := B3.cellAt (i := 10) rfl
    have f10' := ca B3 10
    have q10 := ca B2 10
    have z10 := za B2 10
    have HB2 := Lib.hid B2
    clear B2 B3
    go_wp2_with fail
    refine wp_loop_rounds 1 ?_
    rw [rounds_succ]
    go_wp2_with fail
    have BF : Hid (Blk ((((((((((((w2.alloc (.cells #[.int .u64 (e.term % 1000 + 1), .int .u64 (e.index % 1000 + 1), .int .i64 k, .int .u64 0, .int .u64 0, .int .u64 0, .int .u64 0, .int .i64 0, .int .i64 0, .string ⟨#[]⟩, .string ⟨#[]⟩] 24)).setCell ⟨bx + 1, 0, none⟩ (.int .u64 (e.term % 1000 + 1))).setCell ⟨bx + 1, 1, none⟩ (.int .u64 (e.index % 1000 + 1))).setCell ⟨bx + 1, 2, none⟩ (.int .i64 k)).setCell ⟨bx + 1, 3, none⟩ (.int .u64 0)).setCell ⟨bx + 1, 4, none⟩ (.int .u64 0)).setCell ⟨bx + 1, 5, none⟩ (.int .u64 0)).setCell ⟨bx + 1, 6, none⟩ (.int .u64 0)).setCell ⟨bx + 1, 7, none⟩ (.int .i64 0)).setCell ⟨bx + 1, 8, none⟩ (.int .i64 0)).setCell ⟨bx + 1, 9, none⟩ (.string ⟨#[]⟩)).setCell ⟨bx + 1, 10, none⟩ (.string ⟨#[]⟩)) (bx + 1) #[.int .u64 (e.term % 1000 + 1), .int .u64 (e.index % 1000 + 1), .int .i64 k, .int .u64 0, .int .u64 0, .int .u64 0, .int .u64 0, .int .i64 0, .int .i64 0, .string ⟨#[]⟩, .string ⟨#[]⟩] 24) := Blk.put11 (HB2.out.alloc (.cells #[.int .u64 (e.term % 1000 + 1), .int .u64 (e.index % 1000 + 1), .int .i64 k, .int .u64 0, .int .u64 0, .int .u64 0, .int .u64 0, .int .i64 0, .int .i64 0, .string ⟨#[]⟩, .string ⟨#[]⟩] 24)) (.int .u64 (e.term % 1000 + 1)) (.int .u64 (e.index % 1000 + 1)) (.int .i64 k) (.int .u64 0) (.int .u64 0) (.int .u64 0) (.int .u64 0) (.int .i64 0) (.int .i64 0) (.string ⟨#[]⟩) (.string ⟨#[]⟩)
    have FF : Hid (Fr [] w ((((((((((((w2.alloc (.cells #[.int .u64 (e.term % 1000 + 1), .int .u64 (e.index % 1000 + 1), .int .i64 k, .int .u64 0, .int .u64 0, .int .u64 0, .int .u64 0, .int .i64 0, .int .i64 0, .string ⟨#[]⟩, .string ⟨#[]⟩] 24)).setCell ⟨bx + 1, 0, none⟩ (.int .u64 (e.term % 1000 + 1))).setCell ⟨bx + 1, 1, none⟩ (.int .u64 (e.index % 1000 + 1))).setCell ⟨bx + 1, 2, none⟩ (.int .i64 k)).setCell ⟨bx + 1, 3, none⟩ (.int .u64 0)).setCell ⟨bx + 1, 4, none⟩ (.int .u64 0)).setCell ⟨bx + 1, 5, none⟩ (.int .u64 0)).setCell ⟨bx + 1, 6, none⟩ (.int .u64 0)).setCell ⟨bx + 1, 7, none⟩ (.int .i64 0)).setCell ⟨bx + 1, 8, none⟩ (.int .i64 0)).setCell ⟨bx + 1, 9, none⟩ (.string ⟨#[]⟩)).setCell ⟨bx + 1, 10, none⟩ (.string ⟨#[]⟩))) := ((((((((((((HF2.out.alloc _).setCell (.inr (by have := HX.out; show w.heap.size ≤ bx + 1; omega)) _).setCell (.inr (by have := HX.out; show w.heap.size ≤ bx + 1; omega)) _).setCell (.inr (by have := HX.out; show w.heap.size ≤ bx + 1; omega)) _).setCell (.inr (by have := HX.out; show w.heap.size ≤ bx + 1; omega)) _).setCell (.inr (by have := HX.out; show w.heap.size ≤ bx + 1; omega)) _).setCell (.inr (by have := HX.out; show w.heap.size ≤ bx + 1; omega)) _).setCell (.inr (by have := HX.out; show w.heap.size ≤ bx + 1; omega)) _).setCell (.inr (by have := HX.out; show w.heap.size ≤ bx + 1; omega)) _).setCell (.inr (by have := HX.out; show w.heap.size ≤ bx + 1; omega)) _).setCell (.inr (by have := HX.out; show w.heap.size ≤ bx + 1; omega)) _).setCell (.inr (by have := HX.out; show w.heap.size ≤ bx + 1; omega)) _)
    clear f0 f0' q0 z0 f1 f1' q1 z1 f2 f2' q2 z2 f3 f3' q3 z3 f4 f4' q4 z4 f5 f5' q5 z5 f6 f6' q6 z6 f7 f7' q7 z7 f8 f8' q8 z8 f9 f9' q9 z9 f10 f10' q10 z10
    generalize ((((((((((((w2.alloc (.cells #[.int .u64 (e.term % 1000 + 1), .int .u64 (e.index % 1000 + 1), .int .i64 k, .int .u64 0, .int .u64 0, .int .u64 0, .int .u64 0, .int .i64 0, .int .i64 0, .string ⟨#[]⟩, .string ⟨#[]⟩] 24)).setCell ⟨bx + 1, 0, none⟩ (.int .u64 (e.term % 1000 + 1))).setCell ⟨bx + 1, 1, none⟩ (.int .u64 (e.index % 1000 + 1))).setCell ⟨bx + 1, 2, none⟩ (.int .i64 k)).setCell ⟨bx + 1, 3, none⟩ (.int .u64 0)).setCell ⟨bx + 1, 4, none⟩ (.int .u64 0)).setCell ⟨bx + 1, 5, none⟩ (.int .u64 0)).setCell ⟨bx + 1, 6, none⟩ (.int .u64 0)).setCell ⟨bx + 1, 7, none⟩ (.int .i64 0)).setCell ⟨bx + 1, 8, none⟩ (.int .i64 0)).setCell ⟨bx + 1, 9, none⟩ (.string ⟨#[]⟩)).setCell ⟨bx + 1, 10, none⟩ (.string ⟨#[]⟩)) = W at *
    have BF' := BF.out
    have y0 : W.cell? ⟨bx + 1, 0, none⟩ = some (.int .u64 (e.term % 1000 + 1)) := BF'.cellAt (i := 0) rfl
    have y1 : W.cell? ⟨bx + 1, 1, none⟩ = some (.int .u64 (e.index % 1000 + 1)) := BF'.cellAt (i := 1) rfl
    have y2 : W.cell? ⟨bx + 1, 2, none⟩ = some (.int .i64 k) := BF'.cellAt (i := 2) rfl
    have y3 : W.cell? ⟨bx + 1, 3, none⟩ = some (.int .u64 0) := BF'.cellAt (i := 3) rfl
    have y4 : W.cell? ⟨bx + 1, 4, none⟩ = some (.int .u64 0) := BF'.cellAt (i := 4) rfl
    have y5 : W.cell? ⟨bx + 1, 5, none⟩ = some (.int .u64 0) := BF'.cellAt (i := 5) rfl
    have y6 : W.cell? ⟨bx + 1, 6, none⟩ = some (.int .u64 0) := BF'.cellAt (i := 6) rfl
    have y7 : W.cell? ⟨bx + 1, 7, none⟩ = some (.int .i64 0) := BF'.cellAt (i := 7) rfl
    have y8 : W.cell? ⟨bx + 1, 8, none⟩ = some (.int .i64 0) := BF'.cellAt (i := 8) rfl
    have y9 : W.cell? ⟨bx + 1, 9, none⟩ = some (.string ⟨#[]⟩) := BF'.cellAt (i := 9) rfl
    have y10 : W.cell? ⟨bx + 1, 10, none⟩ = some (.string ⟨#[]⟩) := BF'.cellAt (i := 10) rfl
    refine bodyPost_ret (v := .agg #[.int .u64 (e.term % 1000 + 1), .int .u64 (e.index % 1000 + 1), .int .i64 k, .int .u64 0, .int .u64 0, .int .u64 0, .int .u64 0, .int .i64 0, .int .i64 0, .string ⟨#[]⟩, .string ⟨#[]⟩]) ?_ rfl ⟨?_, FF.out⟩
    · simp [results, Tryd.results9, go_sem, y0, y1, y2, y3, y4, y5, y6, y7, y8, y9, y10]
    · exact HRes.out
  · have hrk := hr4 (by omega)
    have hneg' : 0 ≤ r := by omega
    obtain rfl := hrk
    clear hr3 hr4 hneg hk
    go_enter Tryd.func9, Tryd.ntmps9
    go_wp2_with fail
    refine (HF.out _).mono ?_
    rintro r' w2 ⟨rfl, g2⟩
    have A1 : Fr [] w (w.alloc (.cells #[.int .u64 e.term, .int .u64 e.index, .int .i64 e.kind, .int .u64 e.client, .int .u64 e.seq, .int .u64 e.block, .int .u64 e.many, .int .i64 e.node, .int .i64 e.level, .string e.data, .string e.old, .bool true] 26)) := (Fr.refl _ _).alloc _
    have B3 : Blk w2 (w.heap.size + 1 + 1) e.cells 24 := by
      have h := Blk.fr0 (Blk.new ((w.alloc (.cells #[.int .u64 e.term, .int .u64 e.index, .int .i64 e.kind, .int .u64 e.client, .int .u64 e.seq, .int .u64 e.block, .int .u64 e.many, .int .i64 e.node, .int .i64 e.level, .string e.data, .string e.old, .bool true] 26)).alloc (.cells #[.int .u64 0, .int .u64 0, .int .i64 0, .int .u64 0, .int .u64 0, .int .u64 0, .int .u64 0, .int .i64 0, .int .i64 0, .string ⟨#[]⟩, .string ⟨#[]⟩] 24)) e.cells 24) g2
      rw [show ((w.alloc (.cells #[.int .u64 e.term, .int .u64 e.index, .int .i64 e.kind, .int .u64 e.client, .int .u64 e.seq, .int .u64 e.block, .int .u64 e.many, .int .i64 e.node, .int .i64 e.level, .string e.data, .string e.old, .bool true] 26)).alloc (.cells #[.int .u64 0, .int .u64 0, .int .i64 0, .int .u64 0, .int .u64 0, .int .u64 0, .int .u64 0, .int .i64 0, .int .i64 0, .string ⟨#[]⟩, .string ⟨#[]⟩] 24)).heap.size = w.heap.size + 1 + 1 by simp] at h
      exact h
    have B2 : Blk w2 (w.heap.size + 1) #[.int .u64 0, .int .u64 0, .int .i64 0, .int .u64 0, .int .u64 0, .int .u64 0, .int .u64 0, .int .i64 0, .int .i64 0, .string ⟨#[]⟩, .string ⟨#[]⟩] 24 := by
      have h := Blk.fr0 (Blk.alloc (Blk.new (w.alloc (.cells #[.int .u64 e.term, .int .u64 e.index, .int .i64 e.kind, .int .u64 e.client, .int .u64 e.seq, .int .u64 e.block, .int .u64 e.many, .int .i64 e.node, .int .i64 e.level, .string e.data, .string e.old, .bool true] 26)) #[.int .u64 0, .int .u64 0, .int .i64 0, .int .u64 0, .int .u64 0, .int .u64 0, .int .u64 0, .int .i64 0, .int .i64 0, .string ⟨#[]⟩, .string ⟨#[]⟩] 24) (.cells e.cells 24)) g2
      rw [show (w.alloc (.cells #[.int .u64 e.term, .int .u64 e.index, .int .i64 e.kind, .int .u64 e.client, .int .u64 e.seq, .int .u64 e.block, .int .u64 e.many, .int .i64 e.node, .int .i64 e.level, .string e.data, .string e.old, .bool true] 26)).heap.size = w.heap.size + 1 by simp] at h
      exact h
    have HF2 : Hid (Fr [] w w2) := ((A1.alloc _).alloc _).trans0 g2
    have hlt := B3.lt
    unfold Ent.cells at B3
    clear A1 g2
    generalize hX : w.heap.size = bx at *
    have HX := Lib.hid hX
    clear hX
    have f0 := B3.cellAt (i := 0) rfl
    have f0' := ca B3 0
    have q0 := ca B2 0
    have z0 := za B2 0
    have f1 := B3.cellAt (i := 1) rfl
    have f1' := ca B3 1
    have q1 := ca B2 1
    have z1 := za B2 1
    have f2 := B3.cellAt (i := 2) rfl
    have f2' := ca B3 2
    have q2 := ca B2 2
    have z2 := za B2 2
    have f3 := B3.cellAt (i := 3) rfl
    have f3' := ca B3 3
    have q3 := ca B2 3
    have z3 := za B2 3
    have f4 := B3.cellAt (i := 4) rfl
    have f4' := ca B3 4
    have q4 := ca B2 4
    have z4 := za B2 4
    have f5 := B3.cellAt (i := 5) rfl
    have f5' := ca B3 5
    have q5 := ca B2 5
    have z5 := za B2 5
    have f6 := B3.cellAt (i := 6) rfl
    have f6' := ca B3 6
    have q6 := ca B2 6
    have z6 := za B2 6
    have f7 := B3.cellAt (i := 7) rfl
    have f7' := ca B3 7
    have q7 := ca B2 7
    have z7 := za B2 7
    have f8 := B3.cellAt (i := 8) rfl
    have f8' := ca B3 8
    have q8 := ca B2 8
    have z8 := za B2 8
    have f9 := B3.cellAt (i := 9) rfl
    have f9' := ca B3 9
    have q9 := ca B2 9
    have z9 := za B2 9
    have f10 := B3.cellAt (i := 10) rfl
    have f10' := ca B3 10
    have q10 := ca B2 10
    have z10 := za B2 10
    have HB2 := Lib.hid B2
    clear B2 B3
    go_wp2_with fail
    refine wp_loop_rounds 1 ?_
    rw [rounds_succ]
    go_wp2_with fail
    have BF : Hid (Blk ((((((((((((w2.alloc (.cells #[.int .u64 (e.term % 1000 + 1), .int .u64 (e.index % 1000 + 1), .int .i64 r, .int .u64 0, .int .u64 0, .int .u64 0, .int .u64 0, .int .i64 0, .int .i64 0, .string ⟨#[]⟩, .string ⟨#[]⟩] 24)).setCell ⟨bx + 1, 0, none⟩ (.int .u64 (e.term % 1000 + 1))).setCell ⟨bx + 1, 1, none⟩ (.int .u64 (e.index % 1000 + 1))).setCell ⟨bx + 1, 2, none⟩ (.int .i64 r)).setCell ⟨bx + 1, 3, none⟩ (.int .u64 0)).setCell ⟨bx + 1, 4, none⟩ (.int .u64 0)).setCell ⟨bx + 1, 5, none⟩ (.int .u64 0)).setCell ⟨bx + 1, 6, none⟩ (.int .u64 0)).setCell ⟨bx + 1, 7, none⟩ (.int .i64 0)).setCell ⟨bx + 1, 8, none⟩ (.int .i64 0)).setCell ⟨bx + 1, 9, none⟩ (.string ⟨#[]⟩)).setCell ⟨bx + 1, 10, none⟩ (.string ⟨#[]⟩)) (bx + 1) #[.int .u64 (e.term % 1000 + 1), .int .u64 (e.index % 1000 + 1), .int .i64 r, .int .u64 0, .int .u64 0, .int .u64 0, .int .u64 0, .int .i64 0, .int .i64 0, .string ⟨#[]⟩, .string ⟨#[]⟩] 24) := Blk.put11 (HB2.out.alloc (.cells #[.int .u64 (e.term % 1000 + 1), .int .u64 (e.index % 1000 + 1), .int .i64 r, .int .u64 0, .int .u64 0, .int .u64 0, .int .u64 0, .int .i64 0, .int .i64 0, .string ⟨#[]⟩, .string ⟨#[]⟩] 24)) (.int .u64 (e.term % 1000 + 1)) (.int .u64 (e.index % 1000 + 1)) (.int .i64 r) (.int .u64 0) (.int .u64 0) (.int .u64 0) (.int .u64 0) (.int .i64 0) (.int .i64 0) (.string ⟨#[]⟩) (.string ⟨#[]⟩)
    have FF : Hid (Fr [] w ((((((((((((w2.alloc (.cells #[.int .u64 (e.term % 1000 + 1), .int .u64 (e.index % 1000 + 1), .int .i64 r, .int .u64 0, .int .u64 0, .int .u64 0, .int .u64 0, .int .i64 0, .int .i64 0, .string ⟨#[]⟩, .string ⟨#[]⟩] 24)).setCell ⟨bx + 1, 0, none⟩ (.int .u64 (e.term % 1000 + 1))).setCell ⟨bx + 1, 1, none⟩ (.int .u64 (e.index % 1000 + 1))).setCell ⟨bx + 1, 2, none⟩ (.int .i64 r)).setCell ⟨bx + 1, 3, none⟩ (.int .u64 0)).setCell ⟨bx + 1, 4, none⟩ (.int .u64 0)).setCell ⟨bx + 1, 5, none⟩ (.int .u64 0)).setCell ⟨bx + 1, 6, none⟩ (.int .u64 0)).setCell ⟨bx + 1, 7, none⟩ (.int .i64 0)).setCell ⟨bx + 1, 8, none⟩ (.int .i64 0)).setCell ⟨bx + 1, 9, none⟩ (.string ⟨#[]⟩)).setCell ⟨bx + 1, 10, none⟩ (.string ⟨#[]⟩))) := ((((((((((((HF2.out.alloc _).setCell (.inr (by have := HX.out; show w.heap.size ≤ bx + 1; omega)) _).setCell (.inr (by have := HX.out; show w.heap.size ≤ bx + 1; omega)) _).setCell (.inr (by have := HX.out; show w.heap.size ≤ bx + 1; omega)) _).setCell (.inr (by have := HX.out; show w.heap.size ≤ bx + 1; omega)) _).setCell (.inr (by have := HX.out; show w.heap.size ≤ bx + 1; omega)) _).setCell (.inr (by have := HX.out; show w.heap.size ≤ bx + 1; omega)) _).setCell (.inr (by have := HX.out; show w.heap.size ≤ bx + 1; omega)) _).setCell (.inr (by have := HX.out; show w.heap.size ≤ bx + 1; omega)) _).setCell (.inr (by have := HX.out; show w.heap.size ≤ bx + 1; omega)) _).setCell (.inr (by have := HX.out; show w.heap.size ≤ bx + 1; omega)) _).setCell (.inr (by have := HX.out; show w.heap.size ≤ bx + 1; omega)) _)
    clear f0 f0' q0 z0 f1 f1' q1 z1 f2 f2' q2 z2 f3 f3' q3 z3 f4 f4' q4 z4 f5 f5' q5 z5 f6 f6' q6 z6 f7 f7' q7 z7 f8 f8' q8 z8 f9 f9' q9 z9 f10 f10' q10 z10
    generalize ((((((((((((w2.alloc (.cells #[.int .u64 (e.term % 1000 + 1), .int .u64 (e.index % 1000 + 1), .int .i64 r, .int .u64 0, .int .u64 0, .int .u64 0, .int .u64 0, .int .i64 0, .int .i64 0, .string ⟨#[]⟩, .string ⟨#[]⟩] 24)).setCell ⟨bx + 1, 0, none⟩ (.int .u64 (e.term % 1000 + 1))).setCell ⟨bx + 1, 1, none⟩ (.int .u64 (e.index % 1000 + 1))).setCell ⟨bx + 1, 2, none⟩ (.int .i64 r)).setCell ⟨bx + 1, 3, none⟩ (.int .u64 0)).setCell ⟨bx + 1, 4, none⟩ (.int .u64 0)).setCell ⟨bx + 1, 5, none⟩ (.int .u64 0)).setCell ⟨bx + 1, 6, none⟩ (.int .u64 0)).setCell ⟨bx + 1, 7, none⟩ (.int .i64 0)).setCell ⟨bx + 1, 8, none⟩ (.int .i64 0)).setCell ⟨bx + 1, 9, none⟩ (.string ⟨#[]⟩)).setCell ⟨bx + 1, 10, none⟩ (.string ⟨#[]⟩)) = W at *
    have BF' := BF.out
    have y0 : W.cell? ⟨bx + 1, 0, none⟩ = some (.int .u64 (e.term % 1000 + 1)) := BF'.cellAt (i := 0) rfl
    have y1 : W.cell? ⟨bx + 1, 1, none⟩ = some (.int .u64 (e.index % 1000 + 1)) := BF'.cellAt (i := 1) rfl
    have y2 : W.cell? ⟨bx + 1, 2, none⟩ = some (.int .i64 r) := BF'.cellAt (i := 2) rfl
    have y3 : W.cell? ⟨bx + 1, 3, none⟩ = some (.int .u64 0) := BF'.cellAt (i := 3) rfl
    have y4 : W.cell? ⟨bx + 1, 4, none⟩ = some (.int .u64 0) := BF'.cellAt (i := 4) rfl
    have y5 : W.cell? ⟨bx + 1, 5, none⟩ = some (.int .u64 0) := BF'.cellAt (i := 5) rfl
    have y6 : W.cell? ⟨bx + 1, 6, none⟩ = some (.int .u64 0) := BF'.cellAt (i := 6) rfl
    have y7 : W.cell? ⟨bx + 1, 7, none⟩ = some (.int .i64 0) := BF'.cellAt (i := 7) rfl
    have y8 : W.cell? ⟨bx + 1, 8, none⟩ = some (.int .i64 0) := BF'.cellAt (i := 8) rfl
    have y9 : W.cell? ⟨bx + 1, 9, none⟩ = some (.string ⟨#[]⟩) := BF'.cellAt (i := 9) rfl
    have y10 : W.cell? ⟨bx + 1, 10, none⟩ = some (.string ⟨#[]⟩) := BF'.cellAt (i := 10) rfl
    refine bodyPost_ret (v := .agg #[.int .u64 (e.term % 1000 + 1), .int .u64 (e.index % 1000 + 1), .int .i64 r, .int .u64 0, .int .u64 0, .int .u64 0, .int .u64 0, .int .i64 0, .int .i64 0, .string ⟨#[]⟩, .string ⟨#[]⟩]) ?_ rfl ⟨?_, FF.out⟩
    · simp [results, Tryd.results9, go_sem, y0, y1, y2, y3, y4, y5, y6, y7, y8, y9, y10]
    · exact HRes.out
end Go.Proofs.YthfaaoeecajkeaaDoor

namespace Go.Proofs.YthfaaoeecajkeaaDoor
open List renaming getElem?_toArray → lg0, getElem?_cons_succ → lg1, getElem?_cons_zero → lg2, setIfInBounds_toArray → lt0', set_cons_zero → lt1', set_cons_succ → lt2'
open Go.RowKit

set_option maxRecDepth 100000 in
set_option maxHeartbeats 8000000 in
theorem made_cbd (e : Ent) (w : World) (he : e.Fits) (k : Int) (hk : e.kind % 12 = k) (hkind : entMay k = (⟨#[99, 98, 100]⟩, true)) :
    Calls Tryd.prog 9 #[.agg #[.int .u64 e.term, .int .u64 e.index, .int .i64 e.kind, .int .u64 e.client, .int .u64 e.seq, .int .u64 e.block, .int .u64 e.many, .int .i64 e.node, .int .i64 e.level, .string e.data, .string e.old, .bool true]] w fun r w' => r = .returned (.agg (madeOf e).cells) ∧ Fr [] w w' := by
  obtain ⟨hT, hI, hC, hS, hB, hM, hD, hO⟩ := he
  unfold U64 maxLen at *
  obtain ⟨dn, hdn⟩ : ∃ dn, min e.data.size 64 = dn := ⟨_, rfl⟩
  obtain ⟨on, hon⟩ : ∃ on, min e.old.size 64 = on := ⟨_, rfl⟩
  have HRes : Hid ((Ending.returned (.agg #[.int .u64 (e.term % 1000 + 1), .int .u64 (e.index % 1000 + 1), .int .i64 k, .int .u64 (e.client % 5 + 1), .int .u64 (e.seq % 9), .int .u64 (e.block % 9), .int .u64 0, .int .i64 0, .int .i64 0, .string (e.data.extract 0 dn), .string ⟨#[]⟩]) : Ending) = .returned (.agg (madeOf e).cells)) := by
    unfold madeOf Ent.cells has' cutTo nodeW levelW
    simp only [hk, hkind, hdn, hon]
    rfl
  have md := mn64 e.data.size
  have mo := mn64 e.old.size
  rw [hdn] at md
  rw [hon] at mo
  have hdl : dn ≤ e.data.size := by omega
  have hol : on ≤ e.old.size := by omega
  have HF := Lib.hid (rFields k)
  rw [hkind] at HF
  clear hkind hdn hon
  generalize (madeOf e).cells = RES at *
  obtain ⟨r, hr⟩ : ∃ r, e.kind.tmod 12 = r := ⟨_, rfl⟩
  obtain ⟨hr3, hr4, hr5, hr6⟩ := rem12 e.kind r k hr hk
  by_cases hneg : r < 0
  · have hrk := hr3 hneg
    clear hr3 hr4 hk
    go_enter Tryd.func9, Tryd.ntmps9
    go_wp2_with fail
    refine (HF.out _).mono ?_
    rintro r' w2 ⟨rfl, g2⟩
    have A1 : Fr [] w (w.alloc (.cells #[.int .u64 e.term, .int .u64 e.index, .int .i64 e.kind, .int .u64 e.client, .int .u64 e.seq, .int .u64 e.block, .int .u64 e.many, .int .i64 e.node, .int .i64 e.level, .string e.data, .string e.old, .bool true] 26)) := (Fr.refl _ _).alloc _
    have B3 : Blk w2 (w.heap.size + 1 + 1) e.cells 24 := by
      have h := Blk.fr0 (Blk.new ((w.alloc (.cells #[.int .u64 e.term, .int .u64 e.index, .int .i64 e.kind, .int .u64 e.client, .int .u64 e.seq, .int .u64 e.block, .int .u64 e.many, .int .i64 e.node, .int .i64 e.level, .string e.data, .string e.old, .bool true] 26)).alloc (.cells #[.int .u64 0, .int .u64 0, .int .i64 0, .int .u64 0, .int .u64 0, .int .u64 0, .int .u64 0, .int .i64 0, .int .i64 0, .string ⟨#[]⟩, .string ⟨#[]⟩] 24)) e.cells 24) g2
      rw [show ((w.alloc (.cells #[.int .u64 e.term, .int .u64 e.index, .int .i64 e.kind, .int .u64 e.client, .int .u64 e.seq, .int .u64 e.block, .int .u64 e.many, .int .i64 e.node, .int .i64 e.level, .string e.data, .string e.old, .bool true] 26)).alloc (.cells #[.int .u64 0, .int .u64 0, .int .i64 0, .int .u64 0, .int .u64 0, .int .u64 0, .int .u64 0, .int .i64 0, .int .i64 0, .string ⟨#[]⟩, .string ⟨#[]⟩] 24)).heap.size = w.heap.size + 1 + 1 by simp] at h
      exact h
    have B2 : Blk w2 (w.heap.size + 1) #[.int .u64 0, .int .u64 0, .int .i64 0, .int .u64 0, .int .u64 0, .int .u64 0, .int .u64 0, .int .i64 0, .int .i64 0, .string ⟨#[]⟩, .string ⟨#[]⟩] 24 := by
      have h := Blk.fr0 (Blk.alloc (Blk.new (w.alloc (.cells #[.int .u64 e.term, .int .u64 e.index, .int .i64 e.kind, .int .u64 e.client, .int .u64 e.seq, .int .u64 e.block, .int .u64 e.many, .int .i64 e.node, .int .i64 e.level, .string e.data, .string e.old, .bool true] 26)) #[.int .u64 0, .int .u64 0, .int .i64 0, .int .u64 0, .int .u64 0, .int .u64 0, .int .u64 0, .int .i64 0, .int .i64 0, .string ⟨#[]⟩, .string ⟨#[]⟩] 24) (.cells e.cells 24)) g2
      rw [show (w.alloc (.cells #[.int .u64 e.term, .int .u64 e.index, .int .i64 e.kind, .int .u64 e.client, .int .u64 e.seq, .int .u64 e.block, .int .u64 e.many, .int .i64 e.node, .int .i64 e.level, .string e.data, .string e.old, .bool true] 26)).heap.size = w.heap.size + 1 by simp] at h
      exact h
    have HF2 : Hid (Fr [] w w2) := ((A1.alloc _).alloc _).trans0 g2
    have hlt := B3.lt
    unfold Ent.cells at B3
    clear A1 g2
    generalize hX : w.heap.size = bx at *
    have HX := Lib.hid hX
    clear hX
    have f0 := B3.cellAt (i := 0) rfl
    have f0' := ca B3 0
    have q0 := ca B2 0
    have z0 := za B2 0
    have f1 := B3.cellAt (i := 1) rfl
    have f1' := ca B3 1
    have q1 := ca B2 1
    have z1 := za B2 1
    have f2 := B3.cellAt (i := 2) rfl
    have f2' := ca B3 2
    have q2 := ca B2 2
    have z2 := za B2 2
    have f3 := B3.cellAt (i := 3) rfl
    have f3' := ca B3 3
    have q3 := ca B2 3
    have z3 := za B2 3
    have f4 := B3.cellAt (i := 4) rfl
    have f4' := ca B3 4
    have q4 := ca B2 4
    have z4 := za B2 4
    have f5 := B3.cellAt (i := 5) rfl
    have f5' := ca B3 5
    have q5 := ca B2 5
    have z5 := za B2 5
    have f6 := B3.cellAt (i := 6) rfl
    have f6' := ca B3 6
    have q6 := ca B2 6
    have z6 := za B2 6
    have f7 := B3.cellAt (i := 7) rfl
    have f7' := ca B3 7
    have q7 := ca B2 7
    have z7 := za B2 7
    have f8 := B3.cellAt (i := 8) rfl
    have f8' := ca B3 8
    have q8 := ca B2 8
    have z8 := za B2 8
    have f9 := B3.cellAt (i := 9) rfl
    have f9' := ca B3 9
    have q9 := ca B2 9
    have z9 := za B2 9
    have f10 := B3.cellAt (i := 10) rfl
    have f10' := ca B3 10
    have q10 := ca B2 10
    have z10 := za B2 10
    have HB2 := Lib.hid B2
    clear B2 B3
    go_wp2_with fail
    refine wp_loop_rounds 4 ?_
    rw [rounds_succ]
    go_wp2_with fail
    rw [rounds_succ]
    go_wp2_with fail
    rw [rounds_succ]
    go_wp2_with fail
    rw [rounds_succ]
    go_wp2_with fail
    have BF : Hid (Blk ((((((((((((w2.alloc (.cells #[.int .u64 (e.term % 1000 + 1), .int .u64 (e.index % 1000 + 1), .int .i64 k, .int .u64 (e.client % 5 + 1), .int .u64 (e.seq % 9), .int .u64 (e.block % 9), .int .u64 0, .int .i64 0, .int .i64 0, .string (e.data.extract 0 dn), .string ⟨#[]⟩] 24)).setCell ⟨bx + 1, 0, none⟩ (.int .u64 (e.term % 1000 + 1))).setCell ⟨bx + 1, 1, none⟩ (.int .u64 (e.index % 1000 + 1))).setCell ⟨bx + 1, 2, none⟩ (.int .i64 k)).setCell ⟨bx + 1, 3, none⟩ (.int .u64 (e.client % 5 + 1))).setCell ⟨bx + 1, 4, none⟩ (.int .u64 (e.seq % 9))).setCell ⟨bx + 1, 5, none⟩ (.int .u64 (e.block % 9))).setCell ⟨bx + 1, 6, none⟩ (.int .u64 0)).setCell ⟨bx + 1, 7, none⟩ (.int .i64 0)).setCell ⟨bx + 1, 8, none⟩ (.int .i64 0)).setCell ⟨bx + 1, 9, none⟩ (.string (e.data.extract 0 dn))).setCell ⟨bx + 1, 10, none⟩ (.string ⟨#[]⟩)) (bx + 1) #[.int .u64 (e.term % 1000 + 1), .int .u64 (e.index % 1000 + 1), .int .i64 k, .int .u64 (e.client % 5 + 1), .int .u64 (e.seq % 9), .int .u64 (e.block % 9), .int .u64 0, .int .i64 0, .int .i64 0, .string (e.data.extract 0 dn), .string ⟨#[]⟩] 24) := Blk.put11 (HB2.out.alloc (.cells #[.int .u64 (e.term % 1000 + 1), .int .u64 (e.index % 1000 + 1), .int .i64 k, .int .u64 (e.client % 5 + 1), .int .u64 (e.seq % 9), .int .u64 (e.block % 9), .int .u64 0, .int .i64 0, .int .i64 0, .string (e.data.extract 0 dn), .string ⟨#[]⟩] 24)) (.int .u64 (e.term % 1000 + 1)) (.int .u64 (e.index % 1000 + 1)) (.int .i64 k) (.int .u64 (e.client % 5 + 1)) (.int .u64 (e.seq % 9)) (.int .u64 (e.block % 9)) (.int .u64 0) (.int .i64 0) (.int .i64 0) (.string (e.data.extract 0 dn)) (.string ⟨#[]⟩)
    have FF : Hid (Fr [] w ((((((((((((w2.alloc (.cells #[.int .u64 (e.term % 1000 + 1), .int .u64 (e.index % 1000 + 1), .int .i64 k, .int .u64 (e.client % 5 + 1), .int .u64 (e.seq % 9), .int .u64 (e.block % 9), .int .u64 0, .int .i64 0, .int .i64 0, .string (e.data.extract 0 dn), .string ⟨#[]⟩] 24)).setCell ⟨bx + 1, 0, none⟩ (.int .u64 (e.term % 1000 + 1))).setCell ⟨bx + 1, 1, none⟩ (.int .u64 (e.index % 1000 + 1))).setCell ⟨bx + 1, 2, none⟩ (.int .i64 k)).setCell ⟨bx + 1, 3, none⟩ (.int .u64 (e.client % 5 + 1))).setCell ⟨bx + 1, 4, none⟩ (.int .u64 (e.seq % 9))).setCell ⟨bx + 1, 5, none⟩ (.int .u64 (e.block % 9))).setCell ⟨bx + 1, 6, none⟩ (.int .u64 0)).setCell ⟨bx + 1, 7, none⟩ (.int .i64 0)).setCell ⟨bx + 1, 8, none⟩ (.int .i64 0)).setCell ⟨bx + 1, 9, none⟩ (.string (e.data.extract 0 dn))).setCell ⟨bx + 1, 10, none⟩ (.string ⟨#[]⟩))) := ((((((((((((HF2.out.alloc _).setCell (.inr (by have := HX.out; show w.heap.size ≤ bx + 1; omega)) _).setCell (.inr (by have := HX.out; show w.heap.size ≤ bx + 1; omega)) _).setCell (.inr (by have := HX.out; show w.heap.size ≤ bx + 1; omega)) _).setCell (.inr (by have := HX.out; show w.heap.size ≤ bx + 1; omega)) _).setCell (.inr (by have := HX.out; show w.heap.size ≤ bx + 1; omega)) _).setCell (.inr (by have := HX.out; show w.heap.size ≤ bx + 1; omega)) _).setCell (.inr (by have := HX.out; show w.heap.size ≤ bx + 1; omega)) _).setCell (.inr (by have := HX.out; show w.heap.size ≤ bx + 1; omega)) _).setCell (.inr (by have := HX.out; show w.heap.size ≤ bx + 1; omega)) _).setCell (.inr (by have := HX.out; show w.heap.size ≤ bx + 1; omega)) _).setCell (.inr (by have := HX.out; show w.heap.size ≤ bx + 1; omega)) _)
    clear f0 f0' q0 z0 f1 f1' q1 z1 f2 f2' q2 z2 f3 f3' q3 z3 f4 f4' q4 z4 f5 f5' q5 z5 f6 f6' q6 z6 f7 f7' q7 z7 f8 f8' q8 z8 f9 f9' q9 z9 f10 f10' q10 z10
    generalize ((((((((((((w2.alloc (.cells #[.int .u64 (e.term % 1000 + 1), .int .u64 (e.index % 1000 + 1), .int .i64 k, .int .u64 (e.client % 5 + 1), .int .u64 (e.seq % 9), .int .u64 (e.block % 9), .int .u64 0, .int .i64 0, .int .i64 0, .string (e.data.extract 0 dn), .string ⟨#[]⟩] 24)).setCell ⟨bx + 1, 0, none⟩ (.int .u64 (e.term % 1000 + 1))).setCell ⟨bx + 1, 1, none⟩ (.int .u64 (e.index % 1000 + 1))).setCell ⟨bx + 1, 2, none⟩ (.int .i64 k)).setCell ⟨bx + 1, 3, none⟩ (.int .u64 (e.client % 5 + 1))).setCell ⟨bx + 1, 4, none⟩ (.int .u64 (e.seq % 9))).setCell ⟨bx + 1, 5, none⟩ (.int .u64 (e.block % 9))).setCell ⟨bx + 1, 6, none⟩ (.int .u64 0)).setCell ⟨bx + 1, 7, none⟩ (.int .i64 0)).setCell ⟨bx + 1, 8, none⟩ (.int .i64 0)).setCell ⟨bx + 1, 9, none⟩ (.string (e.data.extract 0 dn))).setCell ⟨bx + 1, 10, none⟩ (.string ⟨#[]⟩)) = W at *
    have BF' := BF.out
    have y0 : W.cell? ⟨bx + 1, 0, none⟩ = some (.int .u64 (e.term % 1000 + 1)) := BF'.cellAt (i := 0) rfl
    have y1 : W.cell? ⟨bx + 1, 1, none⟩ = some (.int .u64 (e.index % 1000 + 1)) := BF'.cellAt (i := 1) rfl
    have y2 : W.cell? ⟨bx + 1, 2, none⟩ = some (.int .i64 k) := BF'.cellAt (i := 2) rfl
    have y3 : W.cell? ⟨bx + 1, 3, none⟩ = some (.int .u64 (e.client % 5 + 1)) := BF'.cellAt (i := 3) rfl
    have y4 : W.cell? ⟨bx + 1, 4, none⟩ = some (.int .u64 (e.seq % 9)) := BF'.cellAt (i := 4) rfl
    have y5 : W.cell? ⟨bx + 1, 5, none⟩ = some (.int .u64 (e.block % 9)) := BF'.cellAt (i := 5) rfl
    have y6 : W.cell? ⟨bx + 1, 6, none⟩ = some (.int .u64 0) := BF'.cellAt (i := 6) rfl
    have y7 : W.cell? ⟨bx + 1, 7, none⟩ = some (.int .i64 0) := BF'.cellAt (i := 7) rfl
    have y8 : W.cell? ⟨bx + 1, 8, none⟩ = some (.int .i64 0) := BF'.cellAt (i := 8) rfl
    have y9 : W.cell? ⟨bx + 1, 9, none⟩ = some (.string (e.data.extract 0 dn)) := BF'.cellAt (i := 9) rfl
    have y10 : W.cell? ⟨bx + 1, 10, none⟩ = some (.string ⟨#[]⟩) := BF'.cellAt (i := 10) rfl
    refine bodyPost_ret (v := .agg #[.int .u64 (e.term % 1000 + 1), .int .u64 (e.index % 1000 + 1), .int .i64 k, .int .u64 (e.client % 5 + 1), .int .u64 (e.seq % 9), .int .u64 (e.block % 9), .int .u64 0, .int .i64 0, .int .i64 0, .string (e.data.extract 0 dn), .string ⟨#[]⟩]) ?_ rfl ⟨?_, FF.out⟩
    · simp [results, Tryd.results9, go_sem, y0, y1, y2, y3, y4, y5, y6, y7, y8, y9, y10]
    · exact HRes.out
  · have hrk := hr4 (by omega)
    have hneg' : 0 ≤ r := by omega
    obtain rfl := hrk
    clear hr3 hr4 hneg hk
    go_enter Tryd.func9, Tryd.ntmps9
    go_wp2_with fail
    refine (HF.out _).mono ?_
    rintro r' w2 ⟨rfl, g2⟩
    have A1 : Fr [] w (w.alloc (.cells #[.int .u64 e.term, .int .u64 e.index, .int .i64 e.kind, .int .u64 e.client, .int .u64 e.seq, .int .u64 e.block, .int .u64 e.many, .int .i64 e.node, .int .i64 e.level, .string e.data, .string e.old, .bool true] 26)) := (Fr.refl _ _).alloc _
    have B3 : Blk w2 (w.heap.size + 1 + 1) e.cells 24 := by
      have h := Blk.fr0 (Blk.new ((w.alloc (.cells #[.int .u64 e.term, .int .u64 e.index, .int .i64 e.kind, .int .u64 e.client, .int .u64 e.seq, .int .u64 e.block, .int .u64 e.many, .int .i64 e.node, .int .i64 e.level, .string e.data, .string e.old, .bool true] 26)).alloc (.cells #[.int .u64 0, .int .u64 0, .int .i64 0, .int .u64 0, .int .u64 0, .int .u64 0, .int .u64 0, .int .i64 0, .int .i64 0, .string ⟨#[]⟩, .string ⟨#[]⟩] 24)) e.cells 24) g2
      rw [show ((w.alloc (.cells #[.int .u64 e.term, .int .u64 e.index, .int .i64 e.kind, .int .u64 e.client, .int .u64 e.seq, .int .u64 e.block, .int .u64 e.many, .int .i64 e.node, .int .i64 e.level, .string e.data, .string e.old, .bool true] 26)).alloc (.cells #[.int .u64 0, .int .u64 0, .int .i64 0, .int .u64 0, .int .u64 0, .int .u64 0, .int .u64 0, .int .i64 0, .int .i64 0, .string ⟨#[]⟩, .string ⟨#[]⟩] 24)).heap.size = w.heap.size + 1 + 1 by simp] at h
      exact h
    have B2 : Blk w2 (w.heap.size + 1) #[.int .u64 0, .int .u64 0, .int .i64 0, .int .u64 0, .int .u64 0, .int .u64 0, .int .u64 0, .int .i64 0, .int .i64 0, .string ⟨#[]⟩, .string ⟨#[]⟩] 24 := by
      have h := Blk.fr0 (Blk.alloc (Blk.new (w.alloc (.cells #[.int .u64 e.term, .int .u64 e.index, .int .i64 e.kind, .int .u64 e.client, .int .u64 e.seq, .int .u64 e.block, .int .u64 e.many, .int .i64 e.node, .int .i64 e.level, .string e.data, .string e.old, .bool true] 26)) #[.int .u64 0, .int .u64 0, .int .i64 0, .int .u64 0, .int .u64 0, .int .u64 0, .int .u64 0, .int .i64 0, .int .i64 0, .string ⟨#[]⟩, .string ⟨#[]⟩] 24) (.cells e.cells 24)) g2
      rw [show (w.alloc (.cells #[.int .u64 e.term, .int .u64 e.index, .int .i64 e.kind, .int .u64 e.client, .int .u64 e.seq, .int .u64 e.block, .int .u64 e.many, .int .i64 e.node, .int .i64 e.level, .string e.data, .string e.old, .bool true] 26)).heap.size = w.heap.size + 1 by simp] at h
      exact h
    have HF2 : Hid (Fr [] w w2) := ((A1.alloc _).alloc _).trans0 g2
    have hlt := B3.lt
    unfold Ent.cells at B3
    clear A1 g2
    generalize hX : w.heap.size = bx at *
    have HX := Lib.hid hX
    clear hX
    have f0 := B3.cellAt (i := 0) rfl
    have f0' := ca B3 0
    have q0 := ca B2 0
    have z0 := za B2 0
    have f1 := B3.cellAt (i := 1) rfl
    have f1' := ca B3 1
    have q1 := ca B2 1
    have z1 := za B2 1
    have f2 := B3.cellAt (i := 2) rfl
    have f2' := ca B3 2
    have q2 := ca B2 2
    have z2 := za B2 2
    have f3 := B3.cellAt (i := 3) rfl
    have f3' := ca B3 3
    have q3 := ca B2 3
    have z3 := za B2 3
    have f4 := B3.cellAt (i := 4) rfl
    have f4' := ca B3 4
    have q4 := ca B2 4
    have z4 := za B2 4
    have f5 := B3.cellAt (i := 5) rfl
    have f5' := ca B3 5
    have q5 := ca B2 5
    have z5 := za B2 5
    have f6 := B3.cellAt (i := 6) rfl
    have f6' := ca B3 6
    have q6 := ca B2 6
    have z6 := za B2 6
    have f7 := B3.cellAt (i := 7) rfl
    have f7' := ca B3 7
    have q7 := ca B2 7
    have z7 := za B2 7
    have f8 := B3.cellAt (i := 8) rfl
    have f8' := ca B3 8
    have q8 := ca B2 8
    have z8 := za B2 8
    have f9 := B3.cellAt (i := 9) rfl
    have f9' := ca B3 9
    have q9 := ca B2 9
    have z9 := za B2 9
    have f10 := B3.cellAt (i := 10) rfl
    have f10' := ca B3 10
    have q10 := ca B2 10
    have z10 := za B2 10
    have HB2 := Lib.hid B2
    clear B2 B3
    go_wp2_with fail
    refine wp_loop_rounds 4 ?_
    rw [rounds_succ]
    go_wp2_with fail
    rw [rounds_succ]
    go_wp2_with fail
    rw [rounds_succ]
    go_wp2_with fail
    rw [rounds_succ]
    go_wp2_with fail
    have BF : Hid (Blk ((((((((((((w2.alloc (.cells #[.int .u64 (e.term % 1000 + 1), .int .u64 (e.index % 1000 + 1), .int .i64 r, .int .u64 (e.client % 5 + 1), .int .u64 (e.seq % 9), .int .u64 (e.block % 9), .int .u64 0, .int .i64 0, .int .i64 0, .string (e.data.extract 0 dn), .string ⟨#[]⟩] 24)).setCell ⟨bx + 1, 0, none⟩ (.int .u64 (e.term % 1000 + 1))).setCell ⟨bx + 1, 1, none⟩ (.int .u64 (e.index % 1000 + 1))).setCell ⟨bx + 1, 2, none⟩ (.int .i64 r)).setCell ⟨bx + 1, 3, none⟩ (.int .u64 (e.client % 5 + 1))).setCell ⟨bx + 1, 4, none⟩ (.int .u64 (e.seq % 9))).setCell ⟨bx + 1, 5, none⟩ (.int .u64 (e.block % 9))).setCell ⟨bx + 1, 6, none⟩ (.int .u64 0)).setCell ⟨bx + 1, 7, none⟩ (.int .i64 0)).setCell ⟨bx + 1, 8, none⟩ (.int .i64 0)).setCell ⟨bx + 1, 9, none⟩ (.string (e.data.extract 0 dn))).setCell ⟨bx + 1, 10, none⟩ (.string ⟨#[]⟩)) (bx + 1) #[.int .u64 (e.term % 1000 + 1), .int .u64 (e.index % 1000 + 1), .int .i64 r, .int .u64 (e.client % 5 + 1), .int .u64 (e.seq % 9), .int .u64 (e.block % 9), .int .u64 0, .int .i64 0, .int .i64 0, .string (e.data.extract 0 dn), .string ⟨#[]⟩] 24) := Blk.put11 (HB2.out.alloc (.cells #[.int .u64 (e.term % 1000 + 1), .int .u64 (e.index % 1000 + 1), .int .i64 r, .int .u64 (e.client % 5 + 1), .int .u64 (e.seq % 9), .int .u64 (e.block % 9), .int .u64 0, .int .i64 0, .int .i64 0, .string (e.data.extract 0 dn), .string ⟨#[]⟩] 24)) (.int .u64 (e.term % 1000 + 1)) (.int .u64 (e.index % 1000 + 1)) (.int .i64 r) (.int .u64 (e.client % 5 + 1)) (.int .u64 (e.seq % 9)) (.int .u64 (e.block % 9)) (.int .u64 0) (.int .i64 0) (.int .i64 0) (.string (e.data.extract 0 dn)) (.string ⟨#[]⟩)
    have FF : Hid (Fr [] w ((((((((((((w2.alloc (.cells #[.int .u64 (e.term % 1000 + 1), .int .u64 (e.index % 1000 + 1), .int .i64 r, .int .u64 (e.client % 5 + 1), .int .u64 (e.seq % 9), .int .u64 (e.block % 9), .int .u64 0, .int .i64 0, .int .i64 0, .string (e.data.extract 0 dn), .string ⟨#[]⟩] 24)).setCell ⟨bx + 1, 0, none⟩ (.int .u64 (e.term % 1000 + 1))).setCell ⟨bx + 1, 1, none⟩ (.int .u64 (e.index % 1000 + 1))).setCell ⟨bx + 1, 2, none⟩ (.int .i64 r)).setCell ⟨bx + 1, 3, none⟩ (.int .u64 (e.client % 5 + 1))).setCell ⟨bx + 1, 4, none⟩ (.int .u64 (e.seq % 9))).setCell ⟨bx + 1, 5, none⟩ (.int .u64 (e.block % 9))).setCell ⟨bx + 1, 6, none⟩ (.int .u64 0)).setCell ⟨bx + 1, 7, none⟩ (.int .i64 0)).setCell ⟨bx + 1, 8, none⟩ (.int .i64 0)).setCell ⟨bx + 1, 9, none⟩ (.string (e.data.extract 0 dn))).setCell ⟨bx + 1, 10, none⟩ (.string ⟨#[]⟩))) := ((((((((((((HF2.out.alloc _).setCell (.inr (by have := HX.out; show w.heap.size ≤ bx + 1; omega)) _).setCell (.inr (by have := HX.out; show w.heap.size ≤ bx + 1; omega)) _).setCell (.inr (by have := HX.out; show w.heap.size ≤ bx + 1; omega)) _).setCell (.inr (by have := HX.out; show w.heap.size ≤ bx + 1; omega)) _).setCell (.inr (by have := HX.out; show w.heap.size ≤ bx + 1; omega)) _).setCell (.inr (by have := HX.out; show w.heap.size ≤ bx + 1; omega)) _).setCell (.inr (by have := HX.out; show w.heap.size ≤ bx + 1; omega)) _).setCell (.inr (by have := HX.out; show w.heap.size ≤ bx + 1; omega)) _).setCell (.inr (by have := HX.out; show w.heap.size ≤ bx + 1; omega)) _).setCell (.inr (by have := HX.out; show w.heap.size ≤ bx + 1; omega)) _).setCell (.inr (by have := HX.out; show w.heap.size ≤ bx + 1; omega)) _)
    clear f0 f0' q0 z0 f1 f1' q1 z1 f2 f2' q2 z2 f3 f3' q3 z3 f4 f4' q4 z4 f5 f5' q5 z5 f6 f6' q6 z6 f7 f7' q7 z7 f8 f8' q8 z8 f9 f9' q9 z9 f10 f10' q10 z10
    generalize ((((((((((((w2.alloc (.cells #[.int .u64 (e.term % 1000 + 1), .int .u64 (e.index % 1000 + 1), .int .i64 r, .int .u64 (e.client % 5 + 1), .int .u64 (e.seq % 9), .int .u64 (e.block % 9), .int .u64 0, .int .i64 0, .int .i64 0, .string (e.data.extract 0 dn), .string ⟨#[]⟩] 24)).setCell ⟨bx + 1, 0, none⟩ (.int .u64 (e.term % 1000 + 1))).setCell ⟨bx + 1, 1, none⟩ (.int .u64 (e.index % 1000 + 1))).setCell ⟨bx + 1, 2, none⟩ (.int .i64 r)).setCell ⟨bx + 1, 3, none⟩ (.int .u64 (e.client % 5 + 1))).setCell ⟨bx + 1, 4, none⟩ (.int .u64 (e.seq % 9))).setCell ⟨bx + 1, 5, none⟩ (.int .u64 (e.block % 9))).setCell ⟨bx + 1, 6, none⟩ (.int .u64 0)).setCell ⟨bx + 1, 7, none⟩ (.int .i64 0)).setCell ⟨bx + 1, 8, none⟩ (.int .i64 0)).setCell ⟨bx + 1, 9, none⟩ (.string (e.data.extract 0 dn))).setCell ⟨bx + 1, 10, none⟩ (.string ⟨#[]⟩)) = W at *
    have BF' := BF.out
    have y0 : W.cell? ⟨bx + 1, 0, none⟩ = some (.int .u64 (e.term % 1000 + 1)) := BF'.cellAt (i := 0) rfl
    have y1 : W.cell? ⟨bx + 1, 1, none⟩ = some (.int .u64 (e.index % 1000 + 1)) := BF'.cellAt (i := 1) rfl
    have y2 : W.cell? ⟨bx + 1, 2, none⟩ = some (.int .i64 r) := BF'.cellAt (i := 2) rfl
    have y3 : W.cell? ⟨bx + 1, 3, none⟩ = some (.int .u64 (e.client % 5 + 1)) := BF'.cellAt (i := 3) rfl
    have y4 : W.cell? ⟨bx + 1, 4, none⟩ = some (.int .u64 (e.seq % 9)) := BF'.cellAt (i := 4) rfl
    have y5 : W.cell? ⟨bx + 1, 5, none⟩ = some (.int .u64 (e.block % 9)) := BF'.cellAt (i := 5) rfl
    have y6 : W.cell? ⟨bx + 1, 6, none⟩ = some (.int .u64 0) := BF'.cellAt (i := 6) rfl
    have y7 : W.cell? ⟨bx + 1, 7, none⟩ = some (.int .i64 0) := BF'.cellAt (i := 7) rfl
    have y8 : W.cell? ⟨bx + 1, 8, none⟩ = some (.int .i64 0) := BF'.cellAt (i := 8) rfl
    have y9 : W.cell? ⟨bx + 1, 9, none⟩ = some (.string (e.data.extract 0 dn)) := BF'.cellAt (i := 9) rfl
    have y10 : W.cell? ⟨bx + 1, 10, none⟩ = some (.string ⟨#[]⟩) := BF'.cellAt (i := 10) rfl
    refine bodyPost_ret (v := .agg #[.int .u64 (e.term % 1000 + 1), .int .u64 (e.index % 1000 + 1), .int .i64 r, .int .u64 (e.client % 5 + 1), .int .u64 (e.seq % 9), .int .u64 (e.block % 9), .int .u64 0, .int .i64 0, .int .i64 0, .string (e.data.extract 0 dn), .string ⟨#[]⟩]) ?_ rfl ⟨?_, FF.out⟩
    · simp [results, Tryd.results9, go_sem, y0, y1, y2, y3, y4, y5, y6, y7, y8, y9, y10]
    · exact HRes.out
end Go.Proofs.YthfaaoeecajkeaaDoor
