/-
  Texts of this seat, joined: ROpen.
-/
import Derived.Test.YtacdbglocpaeaaaZRNote
import Derived.OpenShut
import Derived.Deep.Slices
import Derived.Deep.Fields
import Derived.ChangeSame
set_option linter.unusedSimpArgs false
set_option linter.unusedVariables false
namespace Go.Proofs.Ytacdbglocpaeaaa
open Go.ChangeShapes Go.WideShapes Go.RowKit Go.Deep

section
variable {H : Type} {enc : TypeId × Value → H} {w : World} {base : Nat} {spare : Nat → Bool} {held : Bool}

theorem one_u64 (hc : Try.prog.cellsOf 32 = 1) {n : Nat} {L : List Value} {v : Value} (hL : L.take 1 = [v]) {y : Option (DataW H × List MemPlace)} (hy : ∃ z, y = some z) (h : DataW.trod enc Try.prog w base spare held n 32 (List.take (Try.prog.cellsOf 32) L) = y) : ∃ x : Int, v = .int .u64 x ∧ U64 x := by
  obtain ⟨z, rfl⟩ := hy
  rw [hc, hL] at h
  obtain ⟨x, e, -, wf⟩ := DataW.trod_int Try.underlying32 h
  simp at e
  have := bounds_u64 wf
  exact ⟨x, e, by unfold U64; omega⟩
theorem one_i64 (hc : Try.prog.cellsOf 3 = 1) {n : Nat} {L : List Value} {v : Value} (hL : L.take 1 = [v]) {y : Option (DataW H × List MemPlace)} (hy : ∃ z, y = some z) (h : DataW.trod enc Try.prog w base spare held n 3 (List.take (Try.prog.cellsOf 3) L) = y) : ∃ x : Int, v = .int .i64 x ∧ -9223372036854775808 ≤ x ∧ x ≤ 9223372036854775807 := by
  obtain ⟨z, rfl⟩ := hy
  rw [hc, hL] at h
  obtain ⟨x, e, -, wf⟩ := DataW.trod_int Try.underlying3 h
  simp at e
  exact ⟨x, e, bounds_i64 wf⟩
theorem one_str (hc : Try.prog.cellsOf 9 = 1) {n : Nat} {L : List Value} {v : Value} (hL : L.take 1 = [v]) {y : Option (DataW H × List MemPlace)} (hy : ∃ z, y = some z) (h : DataW.trod enc Try.prog w base spare held n 9 (List.take (Try.prog.cellsOf 9) L) = y) : ∃ x : ByteArray, v = .string x ∧ x.size ≤ maxLen := by
  obtain ⟨z, rfl⟩ := hy
  rw [hc, hL] at h
  obtain ⟨x, e, -, wf⟩ := DataW.trod_string Try.underlying9 h
  simp at e
  exact ⟨x, e, wf⟩
theorem one_bool (hc : Try.prog.cellsOf 4 = 1) {n : Nat} {L : List Value} {v : Value} (hL : L.take 1 = [v]) {y : Option (DataW H × List MemPlace)} (hy : ∃ z, y = some z) (h : DataW.trod enc Try.prog w base spare held n 4 (List.take (Try.prog.cellsOf 4) L) = y) : ∃ x : Bool, v = .bool x := by
  obtain ⟨z, rfl⟩ := hy
  rw [hc, hL] at h
  obtain ⟨x, e, -⟩ := DataW.trod_bool Try.underlying4 h
  simp at e
  exact ⟨x, e⟩
theorem c_u64 : Try.prog.cellsOf 32 = 1 := by kernel_rfl
theorem c_i64 : Try.prog.cellsOf 3 = 1 := by kernel_rfl
theorem c_str : Try.prog.cellsOf 9 = 1 := by kernel_rfl
theorem c_bool : Try.prog.cellsOf 4 = 1 := by kernel_rfl
theorem c_ent : Try.prog.cellsOf 72 = 11 := by kernel_rfl
theorem c_made : Try.prog.cellsOf 74 = 12 := by kernel_rfl
theorem c_msg : Try.prog.cellsOf 35 = 11 := by kernel_rfl
theorem c_note : Try.prog.cellsOf 38 = 13 := by kernel_rfl
theorem c_ents : Try.prog.cellsOf 33 = 1 := by kernel_rfl
theorem c_mades : Try.prog.cellsOf 36 = 1 := by kernel_rfl

theorem some_at {α : Type} {xs : List α} {n i : Nat} (h : xs.length = n) (hi : i < n) : ∃ z, xs[i]? = some z := ⟨_, List.getElem?_eq_getElem (by omega)⟩

theorem ent_of {n : Nat} {cs : List Value} {y : DataW H × List MemPlace} (h : DataW.trod enc Try.prog w base spare held n 72 cs = some y) : ∃ e : Ent, e.Fits ∧ cs = e.cells.toList := by
  obtain ⟨xs, m, _, _, hlen, hx, hf⟩ := DataW.trod_struct Try.underlying72 h
  rw [c_ent] at hlen
  have hx' : xs.length = 11 := hx
  match cs, hlen with
  | [c0, c1, c2, c3, c4, c5, c6, c7, c8, c9, c10], _ =>
    obtain ⟨t, rfl, ft⟩ := one_u64 c_u64 (L := ([c0, c1, c2, c3, c4, c5, c6, c7, c8, c9, c10] : List Value)) (v := c0) rfl (some_at hx' (i := 0) (by decide)) (hf 0 _ rfl)
    obtain ⟨ix, rfl, fi⟩ := one_u64 c_u64 (L := ([c1, c2, c3, c4, c5, c6, c7, c8, c9, c10] : List Value)) (v := c1) rfl (some_at hx' (i := 1) (by decide)) (hf 1 _ rfl)
    obtain ⟨k, rfl, fk⟩ := one_i64 c_i64 (L := ([c2, c3, c4, c5, c6, c7, c8, c9, c10] : List Value)) (v := c2) rfl (some_at hx' (i := 2) (by decide)) (hf 2 _ rfl)
    obtain ⟨cl, rfl, fcl⟩ := one_u64 c_u64 (L := ([c3, c4, c5, c6, c7, c8, c9, c10] : List Value)) (v := c3) rfl (some_at hx' (i := 3) (by decide)) (hf 3 _ rfl)
    obtain ⟨sq, rfl, fsq⟩ := one_u64 c_u64 (L := ([c4, c5, c6, c7, c8, c9, c10] : List Value)) (v := c4) rfl (some_at hx' (i := 4) (by decide)) (hf 4 _ rfl)
    obtain ⟨bl, rfl, fbl⟩ := one_u64 c_u64 (L := ([c5, c6, c7, c8, c9, c10] : List Value)) (v := c5) rfl (some_at hx' (i := 5) (by decide)) (hf 5 _ rfl)
    obtain ⟨mn, rfl, fmn⟩ := one_u64 c_u64 (L := ([c6, c7, c8, c9, c10] : List Value)) (v := c6) rfl (some_at hx' (i := 6) (by decide)) (hf 6 _ rfl)
    obtain ⟨nd, rfl, fnd⟩ := one_i64 c_i64 (L := ([c7, c8, c9, c10] : List Value)) (v := c7) rfl (some_at hx' (i := 7) (by decide)) (hf 7 _ rfl)
    obtain ⟨lv, rfl, flv⟩ := one_i64 c_i64 (L := ([c8, c9, c10] : List Value)) (v := c8) rfl (some_at hx' (i := 8) (by decide)) (hf 8 _ rfl)
    obtain ⟨da, rfl, fda⟩ := one_str c_str (L := ([c9, c10] : List Value)) (v := c9) rfl (some_at hx' (i := 9) (by decide)) (hf 9 _ rfl)
    obtain ⟨ol, rfl, fol⟩ := one_str c_str (L := ([c10] : List Value)) (v := c10) rfl (some_at hx' (i := 10) (by decide)) (hf 10 _ rfl)
    exact ⟨⟨t, ix, k, cl, sq, bl, mn, nd, lv, da, ol⟩, ⟨ft, fi, fcl, fsq, fbl, fmn, fda, fol⟩, rfl⟩

theorem made_of {n : Nat} {cs : List Value} {y : DataW H × List MemPlace} (h : DataW.trod enc Try.prog w base spare held n 74 cs = some y) : ∃ (e : Ent) (q : Bool), e.Fits ∧ cs = e.cells.toList ++ [.bool q] := by
  obtain ⟨xs, m, _, _, hlen, hx, hf⟩ := DataW.trod_struct Try.underlying74 h
  rw [c_made] at hlen
  have hx' : xs.length = 2 := hx
  match cs, hlen with
  | [c0, c1, c2, c3, c4, c5, c6, c7, c8, c9, c10, c11], _ =>
    obtain ⟨z, hz⟩ := some_at hx' (i := 0) (by decide)
    have h0 : DataW.trod enc Try.prog w base spare held m 72 (List.take (Try.prog.cellsOf 72) [c0, c1, c2, c3, c4, c5, c6, c7, c8, c9, c10, c11]) = xs[0]? := hf 0 _ rfl
    rw [hz, c_ent] at h0
    obtain ⟨e, fe, he⟩ := ent_of h0
    obtain ⟨q, rfl⟩ := one_bool c_bool (L := ([c11] : List Value)) (v := c11) rfl (some_at hx' (i := 1) (by decide)) (hf 1 _ rfl)
    refine ⟨e, q, fe, ?_⟩
    rw [← he]
    rfl

/-- A list of what is there at each place. -/
theorem list_of {α : Type} {p : Nat → α → Prop} : ∀ {n : Nat}, (∀ i, i < n → ∃ x, p i x) → ∃ l : List α, l.length = n ∧ ∀ i (hi : i < l.length), p i l[i] := by
  intro n
  induction n with
  | zero => intro _; exact ⟨[], rfl, fun i hi => by simp at hi⟩
  | succ n ih =>
    intro h
    obtain ⟨l, h1, h2⟩ := ih (fun i hi => h i (by omega))
    obtain ⟨x, hx⟩ := h n (by omega)
    refine ⟨l ++ [x], by simp [h1], fun i hi => ?_⟩
    rw [List.getElem_append]
    split
    · rename_i h3; exact h2 i h3
    · rename_i h3
      have : i = n := by simp at hi; omega
      subst this
      simpa [h1] using hx

theorem add_plain (b o k : Nat) : (⟨b, o, none⟩ : Addr).add k = ⟨b, o + k, none⟩ := by
  unfold Addr.add
  split
  · rename_i h; subst h; rfl
  · rfl
theorem addr_plain {a : Addr} {v : Value} (h : w.cell? a = some v) : ∃ b o, a = ⟨b, o, none⟩ := by
  obtain ⟨b, o, sp⟩ := a
  cases sp with
  | none => exact ⟨b, o, rfl⟩
  | some z =>
    exfalso
    unfold World.cell? at h
    split at h <;> simp at h

theorem ents_of {n : Nat} {cs : List Value} {y : DataW H × List MemPlace} (h : DataW.trod enc Try.prog w base spare held n 33 cs = some y) :
    ∃ (a : Option Addr) (len cap : Nat) (l : List Ent), cs = [.slice a len cap] ∧ len ≤ maxLen ∧ l.length = len ∧ (∀ e, e ∈ l → e.Fits) ∧ Ents w (.slice a len cap) l := by
  rcases open_slice Try.underlying33 h with h0 | ⟨a, len, cap, m, n', D, Pl, hcs, hb, hl, hm, hmm, hx, hi⟩
  · exact ⟨none, 0, 0, [], h0.1, by unfold maxLen; omega, rfl, fun e he => (by cases he), .inl ⟨rfl, none, 0, rfl⟩⟩
  · have hlm : len ≤ m := by rw [hmm]; split <;> omega
    obtain ⟨l, hll, hlp⟩ := list_of (p := fun i (e : Ent) => e.Fits ∧ ∀ j, j < 11 → w.cell? (a.add (i * 11 + j)) = e.cells[j]?) (n := len) (fun i hil => by
      obtain ⟨cs', hc, ht'⟩ := hi i (by omega)
      rw [c_ent] at hc
      obtain ⟨e, fe, rfl⟩ := ent_of ht'
      obtain ⟨_, _, hat⟩ := World.cells?_some hc
      refine ⟨e, fe, fun j hj => ?_⟩
      have := hat j hj
      rw [Go.Deep.add_add] at this
      rw [this]
      simp)
    have hfit : ∀ e, e ∈ l → e.Fits := fun e he => by
      obtain ⟨i, hi', rfl⟩ := List.getElem_of_mem he
      exact (hlp i hi').1
    refine ⟨some a, len, cap, l, hcs, by omega, hll, hfit, ?_⟩
    rcases Nat.eq_zero_or_pos len with h0 | h0
    · subst h0
      exact .inl ⟨List.eq_nil_of_length_eq_zero hll, some a, cap, rfl⟩
    · have h1 := (hlp 0 (by omega)).2 0 (by decide)
      have h2 : (l[0]'(by omega)).cells[0]? = some (.int .u64 (l[0]'(by omega)).term) := rfl
      rw [h2] at h1
      have h3 : a.add (0 * 11 + 0) = a := rfl
      rw [h3] at h1
      obtain ⟨b, o, rfl⟩ := addr_plain h1
      refine .inr ⟨b, o, cap, by rw [hll], World.block_lt_of_cell? w _ h1, fun j hj i hi' => ?_⟩
      have := (hlp j hj).2 i hi'
      rw [add_plain] at this
      rw [Nat.add_assoc]
      exact this

theorem mades_of {n : Nat} {cs : List Value} {y : DataW H × List MemPlace} (h : DataW.trod enc Try.prog w base spare held n 36 cs = some y) :
    ∃ (a : Option Addr) (len cap : Nat) (l : List Ent), cs = [.slice a len cap] ∧ len ≤ maxLen ∧ Mrow w a len l := by
  rcases open_slice Try.underlying36 h with h0 | ⟨a, len, cap, m, n', D, Pl, hcs, hb, hl, hm, hmm, hx, hi⟩
  · exact ⟨none, 0, 0, [], h0.1, by unfold maxLen; omega, rfl, fun e he => (by cases he), .inl rfl⟩
  · have hlm : len ≤ m := by rw [hmm]; split <;> omega
    obtain ⟨l, hll, hlp⟩ := list_of (p := fun i (e : Ent) => e.Fits ∧ (∀ j, j < 11 → w.cell? (a.add (i * 12 + j)) = e.cells[j]?) ∧ ∃ q, w.cell? (a.add (i * 12 + 11)) = some (.bool q)) (n := len) (fun i hil => by
      obtain ⟨cs', hc, ht'⟩ := hi i (by omega)
      rw [c_made] at hc
      obtain ⟨e, q, fe, rfl⟩ := made_of ht'
      obtain ⟨_, _, hat⟩ := World.cells?_some hc
      have h11 : e.cells.toList.length = 11 := rfl
      refine ⟨e, fe, fun j hj => ?_, q, ?_⟩
      · have := hat j (by omega)
        rw [Go.Deep.add_add] at this
        rw [this, List.getElem?_append_left (by omega)]
        simp
      · have := hat 11 (by omega)
        rw [Go.Deep.add_add] at this
        rw [this, List.getElem?_append_right (by omega), h11]
        rfl)
    have hfit : ∀ e, e ∈ l → e.Fits := fun e he => by
      obtain ⟨i, hi', rfl⟩ := List.getElem_of_mem he
      exact (hlp i hi').1
    refine ⟨some a, len, cap, l, hcs, by omega, hll, hfit, ?_⟩
    rcases Nat.eq_zero_or_pos len with h0 | h0
    · exact .inl h0
    · have h1 := (hlp 0 (by omega)).2.1 0 (by decide)
      have h2 : (l[0]'(by omega)).cells[0]? = some (.int .u64 (l[0]'(by omega)).term) := rfl
      rw [h2] at h1
      have h3 : a.add (0 * 12 + 0) = a := rfl
      rw [h3] at h1
      obtain ⟨b, o, rfl⟩ := addr_plain h1
      refine .inr ⟨b, o, rfl, fun j hj => ⟨fun i hi' => ?_, ?_⟩⟩
      · have := (hlp j hj).2.1 i hi'
        rw [add_plain] at this
        rw [Nat.add_assoc]
        exact this
      · obtain ⟨q, hq⟩ := (hlp j hj).2.2
        rw [add_plain] at hq
        exact ⟨q, by rw [Nat.add_assoc]; exact hq⟩

theorem msg_of {n : Nat} {cs : List Value} {y : DataW H × List MemPlace} (h : DataW.trod enc Try.prog w base spare held n 35 cs = some y) :
    ∃ (m : Msg) (ad : Option Addr) (len cap : Nat), m.Fits ∧ cs = (m.cells (.slice ad len cap)).toList ∧ Ents w (.slice ad len cap) m.ents := by
  obtain ⟨xs, k, _, _, hlen, hx, hf⟩ := DataW.trod_struct Try.underlying35 h
  rw [c_msg] at hlen
  have hx' : xs.length = 11 := hx
  match cs, hlen with
  | [c0, c1, c2, c3, c4, c5, c6, c7, c8, c9, c10], _ =>
    obtain ⟨kd, rfl, fkd⟩ := one_i64 c_i64 (L := ([c0, c1, c2, c3, c4, c5, c6, c7, c8, c9, c10] : List Value)) (v := c0) rfl (some_at hx' (i := 0) (by decide)) (hf 0 _ rfl)
    obtain ⟨se, rfl, fse⟩ := one_i64 c_i64 (L := ([c1, c2, c3, c4, c5, c6, c7, c8, c9, c10] : List Value)) (v := c1) rfl (some_at hx' (i := 1) (by decide)) (hf 1 _ rfl)
    obtain ⟨go', rfl, fgo⟩ := one_i64 c_i64 (L := ([c2, c3, c4, c5, c6, c7, c8, c9, c10] : List Value)) (v := c2) rfl (some_at hx' (i := 2) (by decide)) (hf 2 _ rfl)
    obtain ⟨te, rfl, fte⟩ := one_u64 c_u64 (L := ([c3, c4, c5, c6, c7, c8, c9, c10] : List Value)) (v := c3) rfl (some_at hx' (i := 3) (by decide)) (hf 3 _ rfl)
    obtain ⟨ix, rfl, fix⟩ := one_u64 c_u64 (L := ([c4, c5, c6, c7, c8, c9, c10] : List Value)) (v := c4) rfl (some_at hx' (i := 4) (by decide)) (hf 4 _ rfl)
    obtain ⟨pr, rfl, fpr⟩ := one_u64 c_u64 (L := ([c5, c6, c7, c8, c9, c10] : List Value)) (v := c5) rfl (some_at hx' (i := 5) (by decide)) (hf 5 _ rfl)
    obtain ⟨co, rfl, fco⟩ := one_u64 c_u64 (L := ([c6, c7, c8, c9, c10] : List Value)) (v := c6) rfl (some_at hx' (i := 6) (by decide)) (hf 6 _ rfl)
    obtain ⟨ma, rfl, fma⟩ := one_u64 c_u64 (L := ([c7, c8, c9, c10] : List Value)) (v := c7) rfl (some_at hx' (i := 7) (by decide)) (hf 7 _ rfl)
    obtain ⟨ye, rfl⟩ := one_bool c_bool (L := ([c8, c9, c10] : List Value)) (v := c8) rfl (some_at hx' (i := 8) (by decide)) (hf 8 _ rfl)
    obtain ⟨z, hz⟩ := some_at hx' (i := 9) (by decide)
    have h9 : DataW.trod enc Try.prog w base spare held k 33 (List.take (Try.prog.cellsOf 33) [c9, c10]) = xs[9]? := hf 9 _ rfl
    rw [hz, c_ents] at h9
    obtain ⟨ad, len, cap, l, he, hlm, hll, hlf, hle⟩ := ents_of h9
    have he' : c9 = .slice ad len cap := by simpa using he
    subst he'
    obtain ⟨sn, rfl, fsn⟩ := one_str c_str (L := ([c10] : List Value)) (v := c10) rfl (some_at hx' (i := 10) (by decide)) (hf 10 _ rfl)
    exact ⟨⟨kd, se, go', te, ix, pr, co, ma, ye, l, sn⟩, ad, len, cap, ⟨fte, fix, fpr, fco, fma, hlf, by show l.length ≤ maxLen; omega, fsn⟩, rfl, hle⟩

theorem note_of {r : Reach} {b0 : Nat} {v : Value} {d : DataW H} {p : List MemPlace} (hv : Value.okWide Try.prog w r b0 38 v) (h : DataW.Trod enc Try.prog w base spare held 38 v d p) :
    ∃ (m : Msg) (own : Bool) (ad : Option Addr) (n cp : Nat) (l : List Ent) (la : Option Addr) (ln lc : Nat), v = .agg #[.int .i64 m.kind, .int .i64 m.sent, .int .i64 m.goal, .int .u64 m.term, .int .u64 m.index, .int .u64 m.prev, .int .u64 m.commit, .int .u64 m.mark, .bool m.yes, .slice ad n cp, .string m.snap, .bool own, .slice la ln lc] ∧
      m.Fits ∧ Ents w (.slice ad n cp) m.ents ∧ ln ≤ maxLen ∧ Mrow w la ln l := by
  obtain ⟨cs, rfl, hsz⟩ := okWide_struct Try.underlying38 hv
  obtain ⟨cs⟩ := cs
  obtain ⟨fuel, hf0⟩ := h
  have hf1 : DataW.trod enc Try.prog w base spare held fuel 38 cs = some (d, p) := hf0
  obtain ⟨xs, k, _, _, hlen, hx, hf⟩ := DataW.trod_struct Try.underlying38 hf1
  rw [c_note] at hlen
  have hx' : xs.length = 3 := hx
  match cs, hlen with
  | [c0, c1, c2, c3, c4, c5, c6, c7, c8, c9, c10, c11, c12], _ =>
    obtain ⟨z, hz⟩ := some_at hx' (i := 0) (by decide)
    have h0 : DataW.trod enc Try.prog w base spare held k 35 (List.take (Try.prog.cellsOf 35) [c0, c1, c2, c3, c4, c5, c6, c7, c8, c9, c10, c11, c12]) = xs[0]? := hf 0 _ rfl
    rw [hz, c_msg] at h0
    obtain ⟨m, ad, n, cp, fm, hm, hE⟩ := msg_of h0
    obtain ⟨own, rfl⟩ := one_bool c_bool (L := ([c11, c12] : List Value)) (v := c11) rfl (some_at hx' (i := 1) (by decide)) (hf 1 _ rfl)
    obtain ⟨z2, hz2⟩ := some_at hx' (i := 2) (by decide)
    have h2 : DataW.trod enc Try.prog w base spare held k 36 (List.take (Try.prog.cellsOf 36) [c12]) = xs[2]? := hf 2 _ rfl
    rw [hz2, c_mades] at h2
    obtain ⟨la, ln, lc, l, he, hlm, hl⟩ := mades_of h2
    have he' : c12 = .slice la ln lc := by simpa using he
    subst he'
    have hm' : [c0, c1, c2, c3, c4, c5, c6, c7, c8, c9, c10] = (m.cells (.slice ad n cp)).toList := hm
    unfold Msg.cells at hm'
    simp only [List.cons.injEq, and_true] at hm'
    obtain ⟨rfl, rfl, rfl, rfl, rfl, rfl, rfl, rfl, rfl, rfl, rfl⟩ := hm'
    exact ⟨m, own, ad, n, cp, l, la, ln, lc, rfl, fm, hE, hlm, hl⟩
end
end Go.Proofs.Ytacdbglocpaeaaa
