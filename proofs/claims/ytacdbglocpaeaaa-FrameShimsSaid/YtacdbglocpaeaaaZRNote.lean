/-
  Texts of this seat, joined: RNote.
-/
import Derived.Test.YtacdbglocpaeaaaZRNt1
import Derived.Test.YtacdbglocpaeaaaZRNt3
import Derived.Test.YtacdbglocpaeaaaZRNt5
import Derived.Test.YtacdbglocpaeaaaZRNe1
import Derived.Test.YtacdbglocpaeaaaZRNe2
set_option linter.unusedSimpArgs false
set_option linter.unusedVariables false
namespace Go.Proofs.Ytacdbglocpaeaaa
open Go.RowKit

/-- The parts of entries that came in. -/
def Mrow (w : World) (la : Option Addr) (ln : Nat) (l : List Ent) : Prop := l.length = ln ∧ (∀ e, e ∈ l → e.Fits) ∧ (ln = 0 ∨ ∃ lb lo, la = some ⟨lb, lo, none⟩ ∧ Mads w lb lo l)
theorem Mads.fr0 {w w' : World} {b o : Nat} {l : List Ent} (h : Mads w b o l) (f : Fr [] w w') : Mads w' b o l := by
  intro j hj
  obtain ⟨h1, q, h2⟩ := h j hj
  have hb : b < w.heap.size := World.block_lt_of_cell? w _ h2
  have hk2 : ∀ off, w'.cell? ⟨b, off, none⟩ = w.cell? ⟨b, off, none⟩ := fun off => World.cell?_of_block (w := w) (f.block b hb (by simp))
  exact ⟨fun i hi => (hk2 _).trans (h1 i hi), q, (hk2 _).trans h2⟩
theorem Mrow.fr0 {w w' : World} {la : Option Addr} {ln : Nat} {l : List Ent} (h : Mrow w la ln l) (f : Fr [] w w') : Mrow w' la ln l := by
  obtain ⟨h1, h2, h3⟩ := h
  refine ⟨h1, h2, ?_⟩
  rcases h3 with h3 | ⟨lb, lo, e, h3⟩
  · exact .inl h3
  · exact .inr ⟨lb, lo, e, h3.fr0 f⟩

/-- What a message is made of: its parts, and at most ten entries. -/
def noteM (m : Msg) (l : List Ent) : Msg := noteOf m ((l.map madeOf).take 10)

theorem noteOf_none {m : Msg} {L : List Ent} {k : Int} (hk : m.kind % 10 = k) (h : hasI (msgMay (k + 1)).1 101 = false) : (noteOf m L).ents = [] := by
  subst hk
  show (if hasI (msgMay (m.kind % 10 + 1)).1 101 = true then L else []) = []
  rw [h]
  rfl
theorem noteOf_some {m : Msg} {L : List Ent} {k : Int} (hk : m.kind % 10 = k) (h : hasI (msgMay (k + 1)).1 101 = true) : (noteOf m L).ents = L := by
  subst hk
  show (if hasI (msgMay (m.kind % 10 + 1)).1 101 = true then L else []) = L
  rw [h]
  rfl

theorem note_plain {m : Msg} {l : List Ent} {k : Int} {a : Value} {w : World} (hk : m.kind % 10 = k) (h : hasI (msgMay (k + 1)).1 101 = false)
    (hc : Calls Try.prog 17 #[a] w fun r w' => r = .returned (.agg ((noteOf m ((l.map madeOf).take 10)).cells (.slice none 0 0))) ∧ Fr [] w w') :
    Calls Try.prog 17 #[a] w fun e w' => ∃ v, e = .returned (.agg ((noteM m l).cells v)) ∧ Hid (Ents w' v (noteM m l).ents) ∧ Hid (Fr [] w w') :=
  hc.mono fun _ _ ⟨h1, h2⟩ => ⟨_, h1, .inl ⟨noteOf_none hk h, none, 0, rfl⟩, h2⟩

theorem note_own (m : Msg) (ad : Option Addr) (n cp : Nat) (l : List Ent) (la : Option Addr) (ln lc : Nat) (w : World) (he : m.Fits) (hl : Mrow w la ln l) :
    Calls Try.prog 17 #[.agg #[.int .i64 m.kind, .int .i64 m.sent, .int .i64 m.goal, .int .u64 m.term, .int .u64 m.index, .int .u64 m.prev, .int .u64 m.commit, .int .u64 m.mark, .bool m.yes, .slice ad n cp, .string m.snap, .bool true, .slice la ln lc]] w
      fun e w' => ∃ v, e = .returned (.agg ((noteM m l).cells v)) ∧ Hid (Ents w' v (noteM m l).ents) ∧ Hid (Fr [] w w') := by
  obtain ⟨k, hk⟩ : ∃ k, m.kind % 10 = k := ⟨_, rfl⟩
  have : k = 0 ∨ k = 1 ∨ k = 2 ∨ k = 3 ∨ k = 4 ∨ k = 5 ∨ k = 6 ∨ k = 7 ∨ k = 8 ∨ k = 9 := by omega
  rcases this with rfl | rfl | rfl | rfl | rfl | rfl | rfl | rfl | rfl | rfl
  · exact note_plain hk (by decide) (note_ip m ad n cp _ _ w he _ hk rfl)
  · exact note_plain hk (by decide) (note_y m ad n cp _ _ w he _ hk rfl)
  · exact note_plain hk (by decide) (note_ip m ad n cp _ _ w he _ hk rfl)
  · exact note_plain hk (by decide) (note_y m ad n cp _ _ w he _ hk rfl)
  · obtain ⟨r, hr⟩ : ∃ r, m.kind.tmod 10 = r := ⟨_, rfl⟩
    obtain ⟨h3, h4, h5, h6⟩ := rem10 m.kind r 4 hr hk
    have hE : ∀ L, (noteOf m L).ents = L := fun L => noteOf_some hk (by decide)
    unfold noteM
    rw [hE]
    obtain ⟨hl1, hl2, hl3⟩ := hl
    rcases hl3 with h0 | ⟨lb, lo, rfl, hm⟩
    · subst h0
      have hl0 : l = [] := List.eq_nil_of_length_eq_zero hl1
      subst hl0
      by_cases hneg : r < 0
      · exact note_ene m ad n cp w la lc he 4 r hr hneg (h3 hneg) (by omega) (by omega) hk rfl
      · have hr4 : r = 4 := h4 (by omega)
        subst hr4
        exact note_epe m ad n cp w la lc he _ hr (by omega) (by omega) hk rfl
    · by_cases hneg : r < 0
      · exact note_enr m ad n cp w l lb lo ln lc hl1 hm hl2 he 4 r hr hneg (h3 hneg) (by omega) (by omega) hk rfl
      · have hr4 : r = 4 := h4 (by omega)
        subst hr4
        exact note_epr m ad n cp w l lb lo ln lc hl1 hm hl2 he _ hr (by omega) (by omega) hk rfl
  · exact note_plain hk (by decide) (note_iyk m ad n cp _ _ w he _ hk rfl)
  · exact note_plain hk (by decide) (note_ips m ad n cp _ _ w he _ hk rfl)
  · exact note_plain hk (by decide) (note_i m ad n cp _ _ w he _ hk rfl)
  · exact note_plain hk (by decide) (note_k m ad n cp _ _ w he _ hk rfl)
  · exact note_plain hk (by decide) (note_k m ad n cp _ _ w he _ hk rfl)

theorem cutTo_size (n : Nat) (s : ByteArray) (h : s.size ≤ maxLen) : (cutTo n s).size ≤ maxLen := by
  unfold cutTo
  rw [ByteArray.size_extract]
  omega
theorem has_u64 {may : ByteArray} {c a : Int} (h : U64 a) : U64 (has' may c a 0) := by
  unfold has'
  split
  · exact h
  · unfold U64; omega
theorem nodeW_any (a : Int) (h : 0 ≤ a ∧ a < 18446744073709551616) (k : Int) (hk : 0 < k ∧ k < 10000) : U64 (a % k) := by
  unfold U64
  have := Int.emod_nonneg a (b := k) (by omega)
  have := Int.emod_lt_of_pos a (b := k) (by omega)
  omega
theorem nodeW_any1 (a : Int) (k : Int) (hk : 0 < k ∧ k < 10000) : U64 (a % k + 1) := by
  unfold U64
  have := Int.emod_nonneg a (b := k) (by omega)
  have := Int.emod_lt_of_pos a (b := k) (by omega)
  omega

theorem madeOf_fits (e : Ent) (h : e.Fits) : (madeOf e).Fits := by
  obtain ⟨h1, h2, h3, h4, h5, h6, h7, h8⟩ := h
  refine ⟨nodeW_any1 _ 1000 (by omega), nodeW_any1 _ 1000 (by omega), has_u64 (nodeW_any1 _ 5 (by omega)), has_u64 (nodeW_any _ h4 9 (by omega)), has_u64 (nodeW_any _ h5 9 (by omega)), has_u64 (nodeW_any _ h6 9 (by omega)), ?_, ?_⟩
  · show (if hasI _ 100 = true then cutTo 64 e.data else ⟨#[]⟩ : ByteArray).size ≤ maxLen
    split
    · exact cutTo_size 64 _ h7
    · exact Nat.zero_le _
  · show (if hasI _ 111 = true then cutTo 64 e.old else ⟨#[]⟩ : ByteArray).size ≤ maxLen
    split
    · exact cutTo_size 64 _ h8
    · exact Nat.zero_le _

theorem noteM_fits (m : Msg) (l : List Ent) (h : m.Fits) (hl : ∀ e, e ∈ l → e.Fits) : (noteM m l).Fits := by
  obtain ⟨h1, h2, h3, h4, h5, h6, h7, h8⟩ := h
  have hL : ∀ e, e ∈ (l.map madeOf).take 10 → e.Fits := fun e he => by
    obtain ⟨x, hx, rfl⟩ := List.mem_map.1 (List.mem_of_mem_take he)
    exact madeOf_fits x (hl x hx)
  refine ⟨h1, has_u64 h2, has_u64 h3, has_u64 h4, has_u64 h5, ?_, ?_, ?_⟩
  · show ∀ e, e ∈ (if hasI _ 101 = true then (l.map madeOf).take 10 else []) → e.Fits
    split
    · exact hL
    · intro e he; cases he
  · show (if hasI _ 101 = true then (l.map madeOf).take 10 else []).length ≤ maxLen
    split
    · rw [List.length_take]; unfold maxLen; omega
    · exact Nat.zero_le _
  · show (if hasI _ 115 = true then cutTo 200 m.snap else ⟨#[]⟩ : ByteArray).size ≤ maxLen
    split
    · exact cutTo_size 200 _ h8
    · exact Nat.zero_le _

/-- note, whatever it is handed: always the same message. -/
theorem noteAny (m : Msg) (own : Bool) (ad : Option Addr) (n cp : Nat) (l : List Ent) (la : Option Addr) (ln lc : Nat) (w : World) (he : m.Fits) (hv : Ents w (.slice ad n cp) m.ents) (hl : Mrow w la ln l) :
    ∃ mo : Msg, mo.Fits ∧ ∀ w1, Fr [] w w1 → Calls Try.prog 17 #[.agg #[.int .i64 m.kind, .int .i64 m.sent, .int .i64 m.goal, .int .u64 m.term, .int .u64 m.index, .int .u64 m.prev, .int .u64 m.commit, .int .u64 m.mark, .bool m.yes, .slice ad n cp, .string m.snap, .bool own, .slice la ln lc]] w1
      fun e w' => ∃ v, e = .returned (.agg (mo.cells v)) ∧ Hid (Ents w' v mo.ents) ∧ Hid (Fr [] w1 w') := by
  cases own with
  | true => exact ⟨noteM m l, noteM_fits m l he hl.2.1, fun w1 f => note_own m ad n cp l la ln lc w1 he (hl.fr0 f)⟩
  | false => exact ⟨m, he, fun w1 f => (note_as m ad n cp (.slice la ln lc) w1).mono fun e w' ⟨h1, h2⟩ => ⟨_, h1, (hv.fr0 f).fr0 h2, h2⟩⟩
end Go.Proofs.Ytacdbglocpaeaaa
