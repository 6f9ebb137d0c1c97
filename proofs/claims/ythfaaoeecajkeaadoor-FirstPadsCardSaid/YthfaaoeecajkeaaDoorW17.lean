/-
  Texts of this seat, joined: RHas RLv.
-/
import Derived.Test.YthfaaoeecajkeaaDoorW14
set_option linter.unusedSimpArgs false
set_option linter.unusedVariables false
namespace Go.Proofs.YthfaaoeecajkeaaDoor
open Go.RowKit

def hasI (s : ByteArray) (c : Int) : Bool := s.data.toList.any (fun x => (x.toNat : Int) == c)

theorem hasI_no {s : ByteArray} {c : Int} (h : ∀ k (hk : k < s.size), (s[k].toNat : Int) ≠ c) : hasI s c = false := by
  unfold hasI
  rw [List.any_eq_false]
  intro x hx
  obtain ⟨k, hk, e⟩ := List.getElem_of_mem hx
  have := h k (by simpa using hk)
  subst e
  simp
  exact this
theorem hasI_yes {s : ByteArray} {c : Int} {k : Nat} (hk : k < s.size) (h : (s[k].toNat : Int) = c) : hasI s c = true := by
  unfold hasI
  rw [List.any_eq_true]
  exact ⟨s[k], by show s.data[k] ∈ s.data.toList; simp, by simpa using h⟩

set_option maxHeartbeats 1000000 in
theorem rHas (s : ByteArray) (c : Int) (w : World) (hs : s.size ≤ maxLen) : Calls Tryd.prog 60 #[.string s, .int .u8 c] w fun e w' => e = .returned (.bool (hasI s c)) ∧ w = w' := by
  unfold maxLen at hs
  go_enter Tryd.func60, Tryd.ntmps60
  go_wp2
  go_loop [5] (fun i => ∃ k : Nat, k ≤ s.size ∧ i = .int .i64 k ∧ Hid (∀ j (hj : j < s.size), j < k → (s[j].toNat : Int) ≠ c)) (fun i => s.size - (intOf i).toNat)
  case atStart => exact ⟨0, by omega, rfl, fun j hj h => absurd h (by omega)⟩
  case round =>
    obtain ⟨k, hk, rfl, HA⟩ := hrel
    by_cases hlt : k < s.size
    · by_cases he : (s[k].toNat : Int) = c
      · have he2 : ((s[k].toNat : Int) == c) = true := by simpa using he
        have HE := Lib.hid (hasI_yes hlt he)
        clear he
        go_wp2
        go_ret
        exact ⟨by rw [HE.out]; rfl, rfl⟩
      · have he2 : ((s[k].toNat : Int) == c) = false := by simpa using he
        have HE := Lib.hid he
        clear he
        go_wp2
        go_round
        case rel => exact ⟨k + 1, by omega, by go_num, fun j hj hjk => by
          by_cases e : j = k
          · subst e; exact HE.out
          · exact HA.out j hj (by omega)⟩
        case measure => simp [intOf]; omega
    · go_wp2
      go_ret
      exact ⟨by rw [hasI_no (fun j hj => HA.out j hj (by omega))]; rfl, rfl⟩

set_option maxHeartbeats 2000000 in
theorem rFields (k : Int) (w : World) : Calls Tryd.prog 31 #[.int .i64 k] w fun e w' => e = .returned (.tuple #[.string (entMay k).1, .bool (entMay k).2]) ∧ Fr [] w w' := by
  by_cases h : 0 ≤ k ∧ k ≤ 11
  · obtain ⟨h0, h1⟩ := h
    have : k = 0 ∨ k = 1 ∨ k = 2 ∨ k = 3 ∨ k = 4 ∨ k = 5 ∨ k = 6 ∨ k = 7 ∨ k = 8 ∨ k = 9 ∨ k = 10 ∨ k = 11 := by omega
    rcases this with rfl | rfl | rfl | rfl | rfl | rfl | rfl | rfl | rfl | rfl | rfl | rfl
    all_goals
      go_enter Tryd.func31, Tryd.ntmps31
      go_wp2
      go_ret2
      exact ⟨rfl, (Fr.refl _ _).alloc _⟩
  · have hn : entMay k = (⟨#[]⟩, false) := by
      unfold entMay
      repeat rw [if_neg (by omega)]
    rw [hn]
    clear hn
    by_cases h2 : k < 0
    · clear h
      go_enter Tryd.func31, Tryd.ntmps31
      go_wp2
      go_ret2
      exact ⟨rfl, Fr.refl _ _⟩
    · have h3 : 11 < k := by omega
      clear h
      go_enter Tryd.func31, Tryd.ntmps31
      go_wp2
      go_ret2
      exact ⟨rfl, Fr.refl _ _⟩

set_option maxHeartbeats 2000000 in
theorem rMsgFields (k : Int) (w : World) : Calls Tryd.prog 44 #[.int .i64 k] w fun e w' => e = .returned (.tuple #[.string (msgMay k).1, .bool (msgMay k).2]) ∧ Fr [] w w' := by
  by_cases h : 1 ≤ k ∧ k ≤ 10
  · obtain ⟨h0, h1⟩ := h
    have : k = 1 ∨ k = 2 ∨ k = 3 ∨ k = 4 ∨ k = 5 ∨ k = 6 ∨ k = 7 ∨ k = 8 ∨ k = 9 ∨ k = 10 := by omega
    rcases this with rfl | rfl | rfl | rfl | rfl | rfl | rfl | rfl | rfl | rfl
    all_goals
      go_enter Tryd.func44, Tryd.ntmps44
      go_wp2
      go_ret2
      exact ⟨rfl, (Fr.refl _ _).alloc _⟩
  · have hn : msgMay k = (⟨#[]⟩, false) := by
      unfold msgMay
      repeat rw [if_neg (by omega)]
    rw [hn]
    clear hn
    by_cases h2 : k < 1
    · clear h
      go_enter Tryd.func44, Tryd.ntmps44
      go_wp2
      go_ret2
      exact ⟨rfl, Fr.refl _ _⟩
    · have h3 : 10 < k := by omega
      clear h
      go_enter Tryd.func44, Tryd.ntmps44
      go_wp2
      go_ret2
      exact ⟨rfl, Fr.refl _ _⟩
end Go.Proofs.YthfaaoeecajkeaaDoor

namespace Go.Proofs.YthfaaoeecajkeaaDoor
open Go.RowKit

set_option maxHeartbeats 400000 in
theorem rLevel (e : Ent) (w : World) : Calls Tryd.prog 33 #[.agg e.cells] w fun r w' => r = .returned (.int .i64 e.lvl) ∧ Fr [] w w' := by
  unfold Ent.cells Ent.lvl
  by_cases h : e.kind = 11
  · have h2 : (e.kind == 11) = true := by simpa using h
    rw [if_pos h]
    clear h
    go_enter Tryd.func33, Tryd.ntmps33
    go_wp2
    go_ret
    exact ⟨rfl, (Fr.refl _ _).alloc _⟩
  · have h2 : (e.kind == 11) = false := by simpa using h
    rw [if_neg h]
    clear h
    go_enter Tryd.func33, Tryd.ntmps33
    go_wp2
    go_ret
    exact ⟨rfl, (Fr.refl _ _).alloc _⟩

/-- Is one of the entries from k on of level 2? -/
theorem any_step {p : Ent → Bool} {l : List Ent} {k : Nat} (h : k < l.length) : (l.drop k).any p = (p l[k] || (l.drop (k + 1)).any p) := by
  rw [List.drop_eq_getElem_cons h, List.any_cons]

theorem entCells {w : World} {b o k : Nat} {l : List Ent} (h : ∀ j (hj : j < l.length) i, i < 11 → w.cell? ⟨b, o + j * 11 + i, none⟩ = l[j].cells[i]?) (hk : k < l.length) {e : Ent} (he : l[k] = e) :
    w.cell? ⟨b, o + k * 11, none⟩ = some (.int .u64 e.term) ∧ w.cell? ⟨b, o + k * 11 + 1, none⟩ = some (.int .u64 e.index) ∧ w.cell? ⟨b, o + k * 11 + 2, none⟩ = some (.int .i64 e.kind) ∧ w.cell? ⟨b, o + k * 11 + 3, none⟩ = some (.int .u64 e.client) ∧ w.cell? ⟨b, o + k * 11 + 4, none⟩ = some (.int .u64 e.seq) ∧ w.cell? ⟨b, o + k * 11 + 5, none⟩ = some (.int .u64 e.block) ∧ w.cell? ⟨b, o + k * 11 + 6, none⟩ = some (.int .u64 e.many) ∧ w.cell? ⟨b, o + k * 11 + 7, none⟩ = some (.int .i64 e.node) ∧ w.cell? ⟨b, o + k * 11 + 8, none⟩ = some (.int .i64 e.level) ∧ w.cell? ⟨b, o + k * 11 + 9, none⟩ = some (.string e.data) ∧ w.cell? ⟨b, o + k * 11 + 10, none⟩ = some (.string e.old) := by
  subst he
  exact ⟨h k hk 0 (by decide), h k hk 1 (by decide), h k hk 2 (by decide), h k hk 3 (by decide), h k hk 4 (by decide), h k hk 5 (by decide), h k hk 6 (by decide), h k hk 7 (by decide), h k hk 8 (by decide), h k hk 9 (by decide), h k hk 10 (by decide)⟩

theorem Ents.row {w : World} {b o c n : Nat} {l : List Ent} (h : Ents w (.slice (some ⟨b, o, none⟩) n c) l) (hn : l.length = n) (h0 : 0 < n) : b < w.heap.size ∧ ∀ j (hj : j < l.length) i, i < 11 → w.cell? ⟨b, o + j * 11 + i, none⟩ = l[j].cells[i]? := by
  rcases h with ⟨rfl, _⟩ | ⟨b', o', c', e, h1, h2⟩
  · simp at hn; omega
  · injection e with e1 e2 e3
    injection e1 with e1
    injection e1 with e1 e4
    subst e1; subst e4
    exact ⟨h1, h2⟩

set_option maxRecDepth 100000 in
set_option maxHeartbeats 4000000 in
theorem rMsgLevel (m : Msg) (v : Value) (w : World) (hf : m.Fits) (hv : Ents w v m.ents) : Calls Tryd.prog 46 #[.agg (m.cells v)] w fun r w' => r = .returned (.int .i64 m.lvl) ∧ Fr [] w w' := by
  obtain ⟨ad, cp, rfl⟩ := hv.shape
  have hmany := hf.many
  unfold maxLen at hmany
  have HV := Lib.hid (hv.fr0 ((Fr.refl [] w).alloc (.cells (m.cells (.slice ad m.ents.length cp)) 47)))
  have HBm : Hid (Blk (w.alloc (.cells (m.cells (.slice ad m.ents.length cp)) 47)) w.heap.size (m.cells (.slice ad m.ents.length cp)) 47) := Blk.new _ _ _
  have HF0 : Hid (Fr [] w (w.alloc (.cells (m.cells (.slice ad m.ents.length cp)) 47))) := (Fr.refl _ _).alloc _
  have HC9 : ∀ (wr : World), Fr [] (w.alloc (.cells (m.cells (.slice ad m.ents.length cp)) 47)) wr → wr.cell? ⟨w.heap.size, 9, none⟩ = some (.slice ad m.ents.length cp) ∧ wr.cell? ⟨w.heap.size, 0, none⟩ = some (.int .i64 m.kind) := fun wr f => ⟨(HBm.out.fr0 f).cellAt (i := 9) rfl, (HBm.out.fr0 f).cellAt (i := 0) rfl⟩
  have HC := Lib.hid HC9
  clear HC9 hv hf
  unfold Msg.cells at *
  generalize hn : m.ents.length = n at *
  have HNn := Lib.hid hn
  clear hn
  go_enter Tryd.func46, Tryd.ntmps46
  go_wp2
  generalize (w.alloc (.cells #[.int .i64 m.kind, .int .i64 m.sent, .int .i64 m.goal, .int .u64 m.term, .int .u64 m.index, .int .u64 m.prev, .int .u64 m.commit, .int .u64 m.mark, .bool m.yes, .slice ad n cp, .string m.snap] 47)) = w2 at *
  generalize w.heap.size = bx at *
  go_loopw [3] (fun i wr => ∃ k : Nat, k ≤ n ∧ i = .int .i64 k ∧ Hid (m.ents.any (fun e => e.lvl == 2) = (m.ents.drop k).any (fun e => e.lvl == 2)) ∧ Hid (Fr [] w2 wr)) (fun i _ => n - (intOf i).toNat)
  case atStart => exact ⟨0, by omega, rfl, rfl, Fr.refl _ _⟩
  case round =>
    obtain ⟨k, hk, rfl, HI, HR⟩ := hrel
    obtain ⟨c9, c0⟩ := HC.out _ HR.out
    by_cases hlt : k < n
    · obtain ⟨b, o, had⟩ : ∃ b o, ad = some ⟨b, o, none⟩ := by
        rcases HV.out with ⟨h1, _⟩ | ⟨b, o, c, h1, _⟩
        · have := HNn.out; rw [h1] at this; simp at this; omega
        · injection h1 with h1; exact ⟨b, o, h1⟩
      subst had
      have hlk : k < m.ents.length := by have := HNn.out; omega
      have hrow := (HV.out.fr0 HR.out).row HNn.out (by omega)
      obtain ⟨e, he⟩ : ∃ e, m.ents[k] = e := ⟨_, rfl⟩
      obtain ⟨d0, d1, d2, d3, d4, d5, d6, d7, d8, d9, d10⟩ := entCells hrow.2 hlk he
      have HS := Lib.hid (any_step (p := fun e => e.lvl == 2) hlk)
      rw [he] at HS
      have HL := Lib.hid (rLevel e)
      unfold Ent.cells at HL
      clear he hrow hlk
      by_cases h2 : e.lvl = 2
      · have h2b : (e.lvl == 2) = true := by simpa using h2
        have HT : Hid (m.ents.any (fun e => e.lvl == 2) = true) := by rw [HI.out, HS.out, h2b]; rfl
        clear h2
        go_wp2_with (go_at_call 33; refine (HL.out _).mono ?_; rintro r w3 ⟨rfl, f3⟩)
        go_ret
        exact ⟨by (first | rfl | (rw [show m.lvl = _ from by unfold Msg.lvl; rw [if_pos (.inr (.inr HT.out))]]; rfl)), (HF0.out.trans0 HR.out).trans0 f3⟩
      · have h2b : (e.lvl == 2) = false := by simpa using h2
        have HT : Hid (m.ents.any (fun e => e.lvl == 2) = (m.ents.drop (k + 1)).any (fun e => e.lvl == 2)) := by rw [HI.out, HS.out, h2b]; rfl
        clear h2
        go_wp2_with (go_at_call 33; refine (HL.out _).mono ?_; rintro r w3 ⟨rfl, f3⟩)
        go_roundw
        case rel => exact ⟨k + 1, by omega, by go_num, HT, HR.out.trans0 f3⟩
        case measure => simp [intOf]; omega
    · have HE : Hid (m.ents.any (fun e => e.lvl == 2) = false) := by
        rw [HI.out, List.drop_of_length_le (by rw [HNn.out]; omega)]; rfl
      by_cases h9 : m.kind = 9
      · have e9 : (m.kind == 9) = true := by simpa using h9
        have H9 := Lib.hid h9
        clear h9
        go_wp2
        go_ret
        exact ⟨by (first | rfl | (rw [show m.lvl = _ from by unfold Msg.lvl; rw [if_pos (.inl H9.out)]]; rfl)), HF0.out.trans0 HR.out⟩
      · have e9 : (m.kind == 9) = false := by simpa using h9
        have H9 := Lib.hid h9
        clear h9
        by_cases h10 : m.kind = 10
        · have e10 : (m.kind == 10) = true := by simpa using h10
          have H10 := Lib.hid h10
          clear h10
          go_wp2
          go_ret
          exact ⟨by (first | rfl | (rw [show m.lvl = _ from by unfold Msg.lvl; rw [if_pos (.inr (.inl H10.out))]]; rfl)), HF0.out.trans0 HR.out⟩
        · have e10 : (m.kind == 10) = false := by simpa using h10
          have H10 := Lib.hid h10
          clear h10
          go_wp2
          go_ret
          exact ⟨by (first | rfl | (rw [show m.lvl = _ from by unfold Msg.lvl; rw [if_neg (by rw [HE.out]; simp [H9.out, H10.out])]]; rfl)), HF0.out.trans0 HR.out⟩
end Go.Proofs.YthfaaoeecajkeaaDoor
