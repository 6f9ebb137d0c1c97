/-
  Texts of this seat, joined: RMsg RSame.
-/
import Derived.Test.YtacdbglocpaeaaaZRMrB
set_option linter.unusedSimpArgs false
set_option linter.unusedVariables false
namespace Go.Proofs.Ytacdbglocpaeaaa
open Go.RowKit

set_option maxRecDepth 100000 in
set_option maxHeartbeats 4000000 in
theorem rMsgRight_bad (m : Msg) (v : Value) (w : World) (hv : Ents w v m.ents) (hkind : (msgMay m.kind).2 = false) : Calls Try.prog 42 #[.agg (m.cells v)] w fun r w' => r = .returned (.bool false) ∧ Fr [] w w' := by
  obtain ⟨ad, cp, rfl⟩ := hv.shape
  have HF := Lib.hid (rMsgFields m.kind)
  rw [hkind] at HF
  clear hkind hv
  generalize (msgMay m.kind).1 = may at *
  unfold Msg.cells
  go_enter Try.func42, Try.ntmps42
  go_wp2_with fail
  refine (HF.out _).mono ?_
  rintro r w2 ⟨rfl, g2⟩
  have HF0 : Hid (Fr [] w w2) := ((Fr.refl _ _).alloc _).trans0 g2
  clear g2
  go_wp2_with fail
  go_ret
  exact ⟨rfl, HF0.out⟩

/-- The program's own answer, by what is in a kind's letters. -/
def okMP (bi bp bt bk by' be bs : Bool) (n : Nat) (bad : Bool) (m : Msg) : Bool :=
  nodeB m.sent && nodeB m.goal && (if bi then true else !decide (0 < m.index)) && (if bp then true else !decide (0 < m.prev)) && (if bt then true else !decide (0 < m.commit)) && (if bk then true else !decide (0 < m.mark)) && (if by' then true else !m.yes) &&
  (if be then decide (n ≤ 64) && !bad else !decide (0 < n)) && (if bs then decide ((m.snap.size : Int) ≤ 16384) else m.snap.toList.isEmpty)

theorem empty_short2 {s : ByteArray} (h : s.toList.isEmpty = true) : decide ((s.size : Int) ≤ 16384) = true := by
  rw [List.isEmpty_iff, Lib.toList_data] at h
  have : s.size = 0 := by rw [Lib.size_eq, h]; rfl
  simp [this]

theorem okMRP (bi bp bt bk by' be bs : Bool) (n : Nat) (bad : Bool) (m : Msg) (hb : n = 0 → bad = false) : okMR bi bp bt bk by' be bs n bad m = okMP bi bp bt bk by' be bs n bad m := by
  have h1 : nodeB m.sent = (!decide (m.sent < 1) && !decide (7 < m.sent)) := by unfold nodeB; rw [Bool.eq_iff_iff]; simp
  have h2 : nodeB m.goal = (!decide (m.goal < 1) && !decide (7 < m.goal)) := by unfold nodeB; rw [Bool.eq_iff_iff]; simp
  have h3 : decide (64 < n) = !decide (n ≤ 64) := by rw [Bool.eq_iff_iff]; simp
  have h4 : (n == 0) = !decide (0 < n) := by rw [Bool.eq_iff_iff]; simp
  have h5 : decide (0 < n) = false → bad = false := fun h => hb (by simpa using h)
  have h6 : decide (0 < n) = false → decide (n ≤ 64) = true := by simp; omega
  have h7 : decide ((16384 : Int) < m.snap.size) = !decide ((m.snap.size : Int) ≤ 16384) := by rw [Bool.eq_iff_iff]; simp
  have h8 := empty_short2 (s := m.snap)
  unfold okMR okMP
  rw [h1, h2, h3, h4, h7]
  clear h1 h2 h3 h4 h7 hb
  generalize decide (m.sent < 1) = a1 at *
  generalize decide (7 < m.sent) = a2 at *
  generalize decide (m.goal < 1) = a3 at *
  generalize decide (7 < m.goal) = a4 at *
  generalize decide (n ≤ 64) = a5 at *
  generalize decide (0 < n) = a6 at *
  generalize decide ((m.snap.size : Int) ≤ 16384) = a7 at *
  generalize m.snap.toList.isEmpty = a8 at *
  generalize decide (0 < m.index) = b1 at *
  generalize decide (0 < m.prev) = b2 at *
  generalize decide (0 < m.commit) = b3 at *
  generalize decide (0 < m.mark) = b4 at *
  generalize m.yes = b5 at *
  cases a1 <;> cases a2 <;> cases a3 <;> cases a4 <;> simp_all <;> cases be <;> cases a5 <;> cases a6 <;> cases a7 <;> cases a8 <;> cases bs <;> simp_all <;> cases bi <;> cases bp <;> cases bt <;> cases bk <;> cases by' <;> simp_all <;> (first | rfl | ac_rfl | grind)

theorem okM_class {m : Msg} {may : ByteArray} {bi bp bt bk by' be bs : Bool} (hkind : msgMay m.kind = (may, true)) (hi : hasB may 105 = bi) (hp : hasB may 112 = bp) (ht : hasB may 116 = bt) (hk : hasB may 107 = bk) (hy : hasB may 121 = by') (he : hasB may 101 = be) (hs : hasB may 115 = bs) :
    m.ok = okMP bi bp bt bk by' be bs m.ents.length (m.ents.any (fun e => !e.ok)) m := by
  unfold Msg.ok fitB Msg.flds okMP
  rw [hkind]
  simp only [List.any_cons, List.any_nil, Fld.bad, hi, hp, ht, hk, hy, he, hs]
  generalize m.snap.toList.isEmpty = x1
  generalize decide (0 < m.index) = x3
  generalize decide (0 < m.prev) = x4
  generalize decide (0 < m.commit) = x5
  generalize decide (0 < m.mark) = x6
  generalize m.yes = x7
  generalize nodeB m.sent = x8
  generalize nodeB m.goal = x9
  generalize decide (m.ents.length ≤ 64) = y1
  generalize decide (0 < m.ents.length) = y2
  generalize m.ents.any (fun e => !e.ok) = y3
  generalize decide ((m.snap.size : Int) ≤ 16384) = y4
  cases bi <;> cases bp <;> cases bt <;> cases bk <;> cases by' <;> cases be <;> cases bs <;> simp [Bool.and_assoc, Bool.and_comm, Bool.and_left_comm]

theorem rMsgRight (m : Msg) (v : Value) (w : World) (hf : m.Fits) (hv : Ents w v m.ents) : Calls Try.prog 42 #[.agg (m.cells v)] w fun r w' => r = .returned (.bool m.ok) ∧ Fr [] w w' := by
  have hb : m.ents.length = 0 → m.ents.any (fun e => !e.ok) = false := fun h => by rw [List.eq_nil_of_length_eq_zero h]; rfl
  by_cases h : 1 ≤ m.kind ∧ m.kind ≤ 10
  · have : m.kind = 1 ∨ m.kind = 2 ∨ m.kind = 3 ∨ m.kind = 4 ∨ m.kind = 5 ∨ m.kind = 6 ∨ m.kind = 7 ∨ m.kind = 8 ∨ m.kind = 9 ∨ m.kind = 10 := by omega
    rcases this with hk | hk | hk | hk | hk | hk | hk | hk | hk | hk
    all_goals
      first
        | (have hm : msgMay m.kind = (⟨#[105, 112]⟩, true) := by (rw [hk]; rfl)
           rw [okM_class hm rfl rfl rfl rfl rfl rfl rfl, ← okMRP _ _ _ _ _ _ _ _ _ m hb]; exact rMsgRight_ip m v _ w hf hv hm (by decide) rfl rfl rfl rfl rfl rfl rfl)
        | (have hm : msgMay m.kind = (⟨#[121]⟩, true) := by (rw [hk]; rfl)
           rw [okM_class hm rfl rfl rfl rfl rfl rfl rfl, ← okMRP _ _ _ _ _ _ _ _ _ m hb]; exact rMsgRight_y m v _ w hf hv hm (by decide) rfl rfl rfl rfl rfl rfl rfl)
        | (have hm : msgMay m.kind = (⟨#[105, 112, 116, 101, 107]⟩, true) := by (rw [hk]; rfl)
           rw [okM_class hm rfl rfl rfl rfl rfl rfl rfl, ← okMRP _ _ _ _ _ _ _ _ _ m hb]; exact rMsgRight_iptek m v _ w hf hv hm (by decide) rfl rfl rfl rfl rfl rfl rfl)
        | (have hm : msgMay m.kind = (⟨#[105, 121, 107]⟩, true) := by (rw [hk]; rfl)
           rw [okM_class hm rfl rfl rfl rfl rfl rfl rfl, ← okMRP _ _ _ _ _ _ _ _ _ m hb]; exact rMsgRight_iyk m v _ w hf hv hm (by decide) rfl rfl rfl rfl rfl rfl rfl)
        | (have hm : msgMay m.kind = (⟨#[105, 112, 115]⟩, true) := by (rw [hk]; rfl)
           rw [okM_class hm rfl rfl rfl rfl rfl rfl rfl, ← okMRP _ _ _ _ _ _ _ _ _ m hb]; exact rMsgRight_ips m v _ w hf hv hm (by decide) rfl rfl rfl rfl rfl rfl rfl)
        | (have hm : msgMay m.kind = (⟨#[105]⟩, true) := by (rw [hk]; rfl)
           rw [okM_class hm rfl rfl rfl rfl rfl rfl rfl, ← okMRP _ _ _ _ _ _ _ _ _ m hb]; exact rMsgRight_i m v _ w hf hv hm (by decide) rfl rfl rfl rfl rfl rfl rfl)
        | (have hm : msgMay m.kind = (⟨#[107]⟩, true) := by (rw [hk]; rfl)
           rw [okM_class hm rfl rfl rfl rfl rfl rfl rfl, ← okMRP _ _ _ _ _ _ _ _ _ m hb]; exact rMsgRight_k m v _ w hf hv hm (by decide) rfl rfl rfl rfl rfl rfl rfl)
  · have hn : (msgMay m.kind).2 = false := by
      unfold msgMay
      repeat rw [if_neg (by omega)]
    have : m.ok = false := by unfold Msg.ok; rw [hn]; rfl
    rw [this]
    exact rMsgRight_bad m v w hv hn
end Go.Proofs.Ytacdbglocpaeaaa

namespace Go.Proofs.Ytacdbglocpaeaaa
open Go.RowKit

theorem entS2 {w : World} {b1 o1 b2 o2 k : Nat} {l : List Ent} (h1 : ∀ j (hj : j < l.length) i, i < 11 → w.cell? ⟨b1, o1 + j * 11 + i, none⟩ = l[j].cells[i]?) (h2 : ∀ j (hj : j < l.length) i, i < 11 → w.cell? ⟨b2, o2 + j * 11 + i, none⟩ = l[j].cells[i]?) (hk : k < l.length) {e : Ent} (he : l[k] = e) :
    (w.cell? ⟨b1, o1 + k * 11, none⟩ = some (.int .u64 e.term) ∧ w.cell? ⟨b1, o1 + k * 11 + 1, none⟩ = some (.int .u64 e.index) ∧ w.cell? ⟨b1, o1 + k * 11 + 2, none⟩ = some (.int .i64 e.kind) ∧ w.cell? ⟨b1, o1 + k * 11 + 3, none⟩ = some (.int .u64 e.client) ∧ w.cell? ⟨b1, o1 + k * 11 + 4, none⟩ = some (.int .u64 e.seq) ∧ w.cell? ⟨b1, o1 + k * 11 + 5, none⟩ = some (.int .u64 e.block) ∧ w.cell? ⟨b1, o1 + k * 11 + 6, none⟩ = some (.int .u64 e.many) ∧ w.cell? ⟨b1, o1 + k * 11 + 7, none⟩ = some (.int .i64 e.node) ∧ w.cell? ⟨b1, o1 + k * 11 + 8, none⟩ = some (.int .i64 e.level) ∧ w.cell? ⟨b1, o1 + k * 11 + 9, none⟩ = some (.string e.data) ∧ w.cell? ⟨b1, o1 + k * 11 + 10, none⟩ = some (.string e.old)) ∧
    (w.cell? ⟨b2, o2 + k * 11, none⟩ = some (.int .u64 e.term) ∧ w.cell? ⟨b2, o2 + k * 11 + 1, none⟩ = some (.int .u64 e.index) ∧ w.cell? ⟨b2, o2 + k * 11 + 2, none⟩ = some (.int .i64 e.kind) ∧ w.cell? ⟨b2, o2 + k * 11 + 3, none⟩ = some (.int .u64 e.client) ∧ w.cell? ⟨b2, o2 + k * 11 + 4, none⟩ = some (.int .u64 e.seq) ∧ w.cell? ⟨b2, o2 + k * 11 + 5, none⟩ = some (.int .u64 e.block) ∧ w.cell? ⟨b2, o2 + k * 11 + 6, none⟩ = some (.int .u64 e.many) ∧ w.cell? ⟨b2, o2 + k * 11 + 7, none⟩ = some (.int .i64 e.node) ∧ w.cell? ⟨b2, o2 + k * 11 + 8, none⟩ = some (.int .i64 e.level) ∧ w.cell? ⟨b2, o2 + k * 11 + 9, none⟩ = some (.string e.data) ∧ w.cell? ⟨b2, o2 + k * 11 + 10, none⟩ = some (.string e.old)) :=
  ⟨entCells h1 hk he, entCells h2 hk he⟩

set_option maxRecDepth 100000 in
set_option maxHeartbeats 8000000 in
theorem rMsgSame (m : Msg) (v1 v2 : Value) (w : World) (hf : m.Fits) (hv1 : Ents w v1 m.ents) (hv2 : Ents w v2 m.ents) : Calls Try.prog 19 #[.agg (m.cells v1), .agg (m.cells v2)] w fun r w' => r = .returned (.bool true) ∧ Fr [] w w' := by
  obtain ⟨ad1, cp1, rfl⟩ := hv1.shape
  obtain ⟨ad2, cp2, rfl⟩ := hv2.shape
  have hmany := hf.many
  unfold maxLen at hmany
  have F0 : Fr [] w ((w.alloc (.cells (m.cells (.slice ad1 m.ents.length cp1)) 35)).alloc (.cells (m.cells (.slice ad2 m.ents.length cp2)) 35)) := ((Fr.refl _ _).alloc _).alloc _
  have B1 := Blk.alloc (Blk.new w (m.cells (.slice ad1 m.ents.length cp1)) 35) (.cells (m.cells (.slice ad2 m.ents.length cp2)) 35)
  have B2 := Blk.new (w.alloc (.cells (m.cells (.slice ad1 m.ents.length cp1)) 35)) (m.cells (.slice ad2 m.ents.length cp2)) 35
  rw [show (w.alloc (.cells (m.cells (.slice ad1 m.ents.length cp1)) 35)).heap.size = w.heap.size + 1 by simp] at B2
  have HV1 := Lib.hid (hv1.fr0 F0)
  have HV2 := Lib.hid (hv2.fr0 F0)
  have HC1 := Lib.hid (fun w3 (f : Fr [] _ w3) => And.intro ((B1.fr0 f).cellAt (i := 0) (v := .int .i64 m.kind) rfl) (And.intro ((B1.fr0 f).cellAt (i := 3) (v := .int .u64 m.term) rfl) (msgC (B1.fr0 f))))
  have HC2 := Lib.hid (fun w3 (f : Fr [] _ w3) => And.intro ((B2.fr0 f).cellAt (i := 0) (v := .int .i64 m.kind) rfl) (And.intro ((B2.fr0 f).cellAt (i := 3) (v := .int .u64 m.term) rfl) (msgC (B2.fr0 f))))
  have HF0 := Lib.hid F0
  clear B1 B2 F0 hv1 hv2 hf
  unfold Msg.cells at *
  generalize hn : m.ents.length = n at *
  have HNn := Lib.hid hn
  clear hn
  have k0 : (m.kind == m.kind) = true := by simp
  have k1 : (m.sent == m.sent) = true := by simp
  have k2 : (m.goal == m.goal) = true := by simp
  have k3 : (m.term == m.term) = true := by simp
  have k4 : (m.index == m.index) = true := by simp
  have k5 : (m.prev == m.prev) = true := by simp
  have k6 : (m.commit == m.commit) = true := by simp
  have k7 : (m.mark == m.mark) = true := by simp
  have k8 : (m.yes == m.yes) = true := by simp
  have k9 : ((n : Int) != (n : Int)) = false := by simp
  go_enter Try.func19, Try.ntmps19
  go_wp2_with fail
  generalize ((w.alloc (.cells #[.int .i64 m.kind, .int .i64 m.sent, .int .i64 m.goal, .int .u64 m.term, .int .u64 m.index, .int .u64 m.prev, .int .u64 m.commit, .int .u64 m.mark, .bool m.yes, .slice ad1 n cp1, .string m.snap] 35)).alloc (.cells #[.int .i64 m.kind, .int .i64 m.sent, .int .i64 m.goal, .int .u64 m.term, .int .u64 m.index, .int .u64 m.prev, .int .u64 m.commit, .int .u64 m.mark, .bool m.yes, .slice ad2 n cp2, .string m.snap] 35)) = w2 at *
  generalize w.heap.size = bx at *
  go_loopw [5] (fun i wr => ∃ k : Nat, k ≤ n ∧ i = .int .i64 k ∧ Hid (Fr [] w2 wr)) (fun i _ => n - (intOf i).toNat)
  case atStart => exact ⟨0, by omega, rfl, Fr.refl _ _⟩
  case round =>
    obtain ⟨k, hk, rfl, HR⟩ := hrel
    obtain ⟨p0, p3, p1, p2, p4, p5, p6, p7, p8, p9, p10⟩ := HC1.out _ HR.out
    obtain ⟨q0, q3, q1, q2, q4, q5, q6, q7, q8, q9, q10⟩ := HC2.out _ HR.out
    by_cases hlt : k < n
    · obtain ⟨b1, o1, had1⟩ : ∃ b o, ad1 = some ⟨b, o, none⟩ := by
        rcases HV1.out with ⟨h1, _⟩ | ⟨b, o, c, h1, _⟩
        · have := HNn.out; rw [h1] at this; simp at this; omega
        · injection h1 with h1; exact ⟨b, o, h1⟩
      obtain ⟨b2, o2, had2⟩ : ∃ b o, ad2 = some ⟨b, o, none⟩ := by
        rcases HV2.out with ⟨h1, _⟩ | ⟨b, o, c, h1, _⟩
        · have := HNn.out; rw [h1] at this; simp at this; omega
        · injection h1 with h1; exact ⟨b, o, h1⟩
      subst had1; subst had2
      have hlk : k < m.ents.length := by have := HNn.out; omega
      have hrow1 := (HV1.out.fr0 HR.out).row HNn.out (by omega)
      have hrow2 := (HV2.out.fr0 HR.out).row HNn.out (by omega)
      obtain ⟨e, he⟩ : ∃ e, m.ents[k] = e := ⟨_, rfl⟩
      obtain ⟨⟨d0, d1, d2, d3, d4, d5, d6, d7, d8, d9, d10⟩, g0, g1, g2, g3, g4, g5, g6, g7, g8, g9, g10⟩ := entS2 hrow1.2 hrow2.2 hlk he
      clear he hrow1 hrow2 hlk
      go_wp2_with fail
      go_quiet (fail)
      go_wp2_with fail
      go_roundw
      case rel => exact ⟨k + 1, by omega, by go_num, by first | exact HR.out.drewN _ | exact HR.out.drew⟩
      case measure => simp [intOf]; omega
    · go_wp2_with fail
      go_ret
      exact ⟨rfl, HF0.out.trans0 HR.out⟩
end Go.Proofs.Ytacdbglocpaeaaa
