/-
  Texts of this seat, joined: RLv.
-/
import Derived.Test.YtacdbglocpaeaaaZRHas
set_option linter.unusedSimpArgs false
set_option linter.unusedVariables false
namespace Go.Proofs.Ytacdbglocpaeaaa
open Go.RowKit

set_option maxHeartbeats 400000 in
theorem rLevel (e : Ent) (w : World) : Calls Try.prog 60 #[.agg e.cells] w fun r w' => r = .returned (.int .i64 e.lvl) ∧ Fr [] w w' := by
  unfold Ent.cells Ent.lvl
  by_cases h : e.kind = 11
  · have h2 : (e.kind == 11) = true := by simpa using h
    rw [if_pos h]
    clear h
    go_enter Try.func60, Try.ntmps60
    go_wp2
    go_ret
    exact ⟨rfl, (Fr.refl _ _).alloc _⟩
  · have h2 : (e.kind == 11) = false := by simpa using h
    rw [if_neg h]
    clear h
    go_enter Try.func60, Try.ntmps60
    go_wp2
    go_ret
    exact ⟨rfl, (Fr.refl _ _).alloc _⟩

/-- Is one of the entries from k on of level 2? -/
theorem any_step {p : Ent → Bool} {l : List Ent} {k : Nat} (h : k < l.length) : (l.drop k).any p = (p l[k] || (l.drop (k + 1)).any p) := by
  rw [List.drop_eq_getElem_cons h, List.any_cons]

theorem entCells {w : World} {b o k : Nat} {l : List Ent} (h : ∀ j (hj : j < l.length) i, i < 11 → w.cell? ⟨b, o + j * 11 + i, none⟩ = l[j].cells[i]?) (hk : k < l.length) {e : Ent} (he : l[k] = e) :
    w.cell? ⟨b, o + k * 11, none⟩ = some (.int .u64 e.term) ∧ w.cell? ⟨b, o + k * 11 + 1, none⟩ = some (.int .u64 e.index) ∧ w.cell? ⟨b, o + k * 11 + 2, none⟩ = some (.int .i64 e.kind) ∧ w.cell? ⟨b, o + k * 11 + 3, none⟩ = some (.int .u64 e.client) ∧ w.cell? ⟨b, o + k * 11 + 4, none⟩ = some (.int .u64 e.seq) ∧ w.cell? ⟨b, o + k * 11 + 5, none⟩ = some (.int .u64 e.block) ∧ w.cell? ⟨b, o + k * 11 + 6, none⟩ = some (.int .u64 e.many) ∧ w.cell? ⟨b, o + k * 11 + 7, none⟩ = some (.int .i64 e.node) ∧ w.cell? ⟨b, o + k * 11 + 8, none⟩ = some (.int .i64 e.level) ∧ w.cell? ⟨b, o + k * 11 + 9, none⟩ = some (.string e.data) ∧ w.cell? ⟨b, o + k * 11 + 10, none⟩ = some (.string e.old) := by
  subst he
  exact ⟨h k hk 0 (by decide), h k hk 1 (by decide), h k hk 2 (by decide), h k hk 3 (by decide), h k hk 4 (by decide), h k hk 5 (by decide), h k hk 6 (by decide), h k hk 7 (by decide), h k hk 8 (by decide), h k hk 9 (by decide), h k hk 10 (by decide)⟩

theorem Ents.row {w : World} {b o c n : Nat} {l : List Ent} (h : Ents w (.slice (some ⟨b, o, none⟩) n c) l) (hn : l.length = n) (h0 : 0 < n) : b < w.heap.size ∧ ∀ j (hj : j < l.length) i, i < 11 → w.cell? ⟨b, o + j * 11 + i, none⟩ = l[j].cells[i]? := by
  rcases h with ⟨rfl, _⟩ | ⟨b', o', c', e, h1, h2⟩
  · simp at hn; omega
  · injection e with e1 e2 e3
    injection e1 with e1
    injection e1 with e1 e4
    subst e1; subst e4
    exact ⟨h1, h2⟩

set_option maxRecDepth 100000 in
set_option maxHeartbeats 4000000 in
theorem rMsgLevel (m : Msg) (v : Value) (w : World) (hf : m.Fits) (hv : Ents w v m.ents) : Calls Try.prog 43 #[.agg (m.cells v)] w fun r w' => r = .returned (.int .i64 m.lvl) ∧ Fr [] w w' := by
  obtain ⟨ad, cp, rfl⟩ := hv.shape
  have hmany := hf.many
  unfold maxLen at hmany
  have HV := Lib.hid (hv.fr0 ((Fr.refl [] w).alloc (.cells (m.cells (.slice ad m.ents.length cp)) 35)))
  have HBm : Hid (Blk (w.alloc (.cells (m.cells (.slice ad m.ents.length cp)) 35)) w.heap.size (m.cells (.slice ad m.ents.length cp)) 35) := Blk.new _ _ _
  have HF0 : Hid (Fr [] w (w.alloc (.cells (m.cells (.slice ad m.ents.length cp)) 35))) := (Fr.refl _ _).alloc _
  have HC9 : ∀ (wr : World), Fr [] (w.alloc (.cells (m.cells (.slice ad m.ents.length cp)) 35)) wr → wr.cell? ⟨w.heap.size, 9, none⟩ = some (.slice ad m.ents.length cp) ∧ wr.cell? ⟨w.heap.size, 0, none⟩ = some (.int .i64 m.kind) := fun wr f => ⟨(HBm.out.fr0 f).cellAt (i := 9) rfl, (HBm.out.fr0 f).cellAt (i := 0) rfl⟩
  have HC := Lib.hid HC9
  clear HC9 hv hf
  unfold Msg.cells at *
  generalize hn : m.ents.length = n at *
  have HNn := Lib.hid hn
  clear hn
  go_enter Try.func43, Try.ntmps43
  go_wp2
  generalize (w.alloc (.cells #[.int .i64 m.kind, .int .i64 m.sent, .int .i64 m.goal, .int .u64 m.term, .int .u64 m.index, .int .u64 m.prev, .int .u64 m.commit, .int .u64 m.mark, .bool m.yes, .slice ad n cp, .string m.snap] 35)) = w2 at *
  generalize w.heap.size = bx at *
  go_loopw [3] (fun i wr => ∃ k : Nat, k ≤ n ∧ i = .int .i64 k ∧ Hid (m.ents.any (fun e => e.lvl == 2) = (m.ents.drop k).any (fun e => e.lvl == 2)) ∧ Hid (Fr [] w2 wr)) (fun i _ => n - (intOf i).toNat)
  case atStart => exact ⟨0, by omega, rfl, rfl, Fr.refl _ _⟩
  case round =>
    obtain ⟨k, hk, rfl, HI, HR⟩ := hrel
    obtain ⟨c9, c0⟩ := HC.out _ HR.out
    by_cases hlt : k < n
    · obtain ⟨b, o, had⟩ : ∃ b o, ad = some ⟨b, o, none⟩ := by
        rcases HV.out with ⟨h1, _⟩ | ⟨b, o, c, h1, _⟩
        · have := HNn.out; rw [h1] at this; simp at this; omega
        · injection h1 with h1; exact ⟨b, o, h1⟩
      subst had
      have hlk : k < m.ents.length := by have := HNn.out; omega
      have hrow := (HV.out.fr0 HR.out).row HNn.out (by omega)
      obtain ⟨e, he⟩ : ∃ e, m.ents[k] = e := ⟨_, rfl⟩
      obtain ⟨d0, d1, d2, d3, d4, d5, d6, d7, d8, d9, d10⟩ := entCells hrow.2 hlk he
      have HS := Lib.hid (any_step (p := fun e => e.lvl == 2) hlk)
      rw [he] at HS
      have HL := Lib.hid (rLevel e)
      unfold Ent.cells at HL
      clear he hrow hlk
      by_cases h2 : e.lvl = 2
      · have h2b : (e.lvl == 2) = true := by simpa using h2
        have HT : Hid (m.ents.any (fun e => e.lvl == 2) = true) := by rw [HI.out, HS.out, h2b]; rfl
        clear h2
        go_wp2_with (go_at_call 60; refine (HL.out _).mono ?_; rintro r w3 ⟨rfl, f3⟩)
        go_ret
        exact ⟨by (first | rfl | (rw [show m.lvl = _ from by unfold Msg.lvl; rw [if_pos (.inr (.inr HT.out))]]; rfl)), (HF0.out.trans0 HR.out).trans0 f3⟩
      · have h2b : (e.lvl == 2) = false := by simpa using h2
        have HT : Hid (m.ents.any (fun e => e.lvl == 2) = (m.ents.drop (k + 1)).any (fun e => e.lvl == 2)) := by rw [HI.out, HS.out, h2b]; rfl
        clear h2
        go_wp2_with (go_at_call 60; refine (HL.out _).mono ?_; rintro r w3 ⟨rfl, f3⟩)
        go_roundw
        case rel => exact ⟨k + 1, by omega, by go_num, HT, HR.out.trans0 f3⟩
        case measure => simp [intOf]; omega
    · have HE : Hid (m.ents.any (fun e => e.lvl == 2) = false) := by
        rw [HI.out, List.drop_of_length_le (by rw [HNn.out]; omega)]; rfl
      by_cases h9 : m.kind = 9
      · have e9 : (m.kind == 9) = true := by simpa using h9
        have H9 := Lib.hid h9
        clear h9
        go_wp2
        go_ret
        exact ⟨by (first | rfl | (rw [show m.lvl = _ from by unfold Msg.lvl; rw [if_pos (.inl H9.out)]]; rfl)), HF0.out.trans0 HR.out⟩
      · have e9 : (m.kind == 9) = false := by simpa using h9
        have H9 := Lib.hid h9
        clear h9
        by_cases h10 : m.kind = 10
        · have e10 : (m.kind == 10) = true := by simpa using h10
          have H10 := Lib.hid h10
          clear h10
          go_wp2
          go_ret
          exact ⟨by (first | rfl | (rw [show m.lvl = _ from by unfold Msg.lvl; rw [if_pos (.inr (.inl H10.out))]]; rfl)), HF0.out.trans0 HR.out⟩
        · have e10 : (m.kind == 10) = false := by simpa using h10
          have H10 := Lib.hid h10
          clear h10
          go_wp2
          go_ret
          exact ⟨by (first | rfl | (rw [show m.lvl = _ from by unfold Msg.lvl; rw [if_neg (by rw [HE.out]; simp [H9.out, H10.out])]]; rfl)), HF0.out.trans0 HR.out⟩
end Go.Proofs.Ytacdbglocpaeaaa
