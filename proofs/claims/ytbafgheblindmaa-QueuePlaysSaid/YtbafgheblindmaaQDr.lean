/-
  QueueDrops: what is known of two queues that hold the same; what is lost, what is doubled: the plain part.
-/
import Derived.Test.YtbafgheblindmaaRows
import Derived.Test.YtbafgheblindmaaQNx
namespace Go.Proofs.Ytbafgheblindmaa.queueDrops
open Go.RowKit Go.Proofs.Ytbafgheblindmaa

def itm (z : List Int) (i : Nat) : Itm := ⟨z.getD i 0, (i : Int) + 1, i, ⟨#[120]⟩⟩
def itms (z : List Int) (k : Nat) : List Itm := (List.range k).map (itm z)
theorem itms_succ (z : List Int) (k : Nat) : itms z (k + 1) = itms z k ++ [itm z k] := by simp [itms, List.range_succ]
theorem itms_len (z : List Int) (k : Nat) : (itms z k).length = k := by simp [itms]

/-- What a queue holds behind k that were added. -/
def Sof (z : List Int) : Nat → List Itm
  | 0 => []
  | k + 1 => ins (itm z k) (Sof z k)
theorem Sof_perm (z : List Int) : ∀ k, (Sof z k).Perm (itms z k)
  | 0 => .refl _
  | k + 1 => by
    rw [itms_succ]
    exact ((ins_perm (itm z k) (Sof z k)).trans (List.Perm.cons _ (Sof_perm z k))).trans (List.perm_append_singleton _ _).symm
theorem Sof_len (z : List Int) (k : Nat) : (Sof z k).length = k := by rw [(Sof_perm z k).length_eq, itms_len]
theorem Sof_has (z : List Int) {k i : Nat} (h : i < k) : itm z i ∈ Sof z k :=
  (Sof_perm z k).mem_iff.2 (List.mem_map.2 ⟨i, List.mem_range.2 h, rfl⟩)

/-- Two queues of a caller's own. -/
structure Two (w0 w : World) (qa : Nat) (va : Value) (Sa : List Itm) (la : Int) (qb : Nat) (vb : Value) (Sb : List Itm) (lb : Int) : Prop where
  a : QS w qa va Sa la
  b : QS w qb vb Sb lb
  sep : ∀ x, x ∈ qa :: va.ownBlock.toList → x ∉ qb :: vb.ownBlock.toList
  na : ∀ x, x ∈ qa :: va.ownBlock.toList → w0.heap.size ≤ x
  nb : ∀ x, x ∈ qb :: vb.ownBlock.toList → w0.heap.size ≤ x
  fr : Fr [] w0 w

theorem qsLt {w : World} {q : Nat} {v : Value} {S : List Itm} {last : Int} (h : QS w q v S last) {x : Nat} (hx : x ∈ q :: v.ownBlock.toList) : x < w.heap.size := by
  rcases List.mem_cons.1 hx with rfl | hx
  · exact h.lt.1
  · exact h.lt.2 x hx

theorem Two.swap {w0 w : World} {qa qb : Nat} {va vb : Value} {Sa Sb : List Itm} {la lb : Int} (h : Two w0 w qa va Sa la qb vb Sb lb) : Two w0 w qb vb Sb lb qa va Sa la :=
  ⟨h.b, h.a, fun x hx hy => h.sep x hy hx, h.nb, h.na, h.fr⟩
theorem Two.fr0 {w0 w w' : World} {qa qb : Nat} {va vb : Value} {Sa Sb : List Itm} {la lb : Int} (h : Two w0 w qa va Sa la qb vb Sb lb) (hf : Fr [] w w') : Two w0 w' qa va Sa la qb vb Sb lb :=
  ⟨h.a.fr0 hf, h.b.fr0 hf, h.sep, h.na, h.nb, h.fr.trans0 hf⟩
theorem Two.stepA {w0 w w' : World} {qa qb : Nat} {va va' vb : Value} {Sa Sa' Sb : List Itm} {la la' lb : Int} (h : Two w0 w qa va Sa la qb vb Sb lb) (hs : QS w' qa va' Sa' la') (hk : Kept qa va w va' w') : Two w0 w' qa va' Sa' la' qb vb Sb lb := by
  refine ⟨hs, h.b.fr hk.1 (fun e => h.sep _ e (by simp)) (fun x hx e => h.sep _ e (by simp [hx])), fun x hx hy => ?_, fun x hx => ?_, h.nb, h.fr.trans hk.1 (fun x hx => .inr (h.na x hx))⟩
  · rcases List.mem_cons.1 hx with rfl | hx
    · exact h.sep _ (by simp) hy
    · rcases hk.2 x hx with h1 | h1
      · exact h.sep x (by simp [h1]) hy
      · exact absurd (qsLt h.b hy) (by omega)
  · rcases List.mem_cons.1 hx with rfl | hx
    · exact h.na _ (by simp)
    · rcases hk.2 x hx with h1 | h1
      · exact h.na x (by simp [h1])
      · exact Nat.le_trans h.fr.size h1

/-- Items that a call laid, and neither queue's. -/
structure Lies (w : World) (v : Value) (L : List Itm) (qa : Nat) (va : Value) (qb : Nat) (vb : Value) : Prop where
  its : Its w v L
  a : ∀ x, x ∈ v.ownBlock.toList → x ∉ qa :: va.ownBlock.toList
  b : ∀ x, x ∈ v.ownBlock.toList → x ∉ qb :: vb.ownBlock.toList
theorem Lies.fr0 {w w' : World} {v : Value} {L : List Itm} {qa qb : Nat} {va vb : Value} (h : Lies w v L qa va qb vb) (hf : Fr [] w w') : Lies w' v L qa va qb vb := ⟨h.its.fr0 hf, h.a, h.b⟩
theorem Lies.swap {w : World} {v : Value} {L : List Itm} {qa qb : Nat} {va vb : Value} (h : Lies w v L qa va qb vb) : Lies w v L qb vb qa va := ⟨h.its, h.b, h.a⟩
theorem Lies.lt {w : World} {v : Value} {L : List Itm} {qa qb : Nat} {va vb : Value} (h : Lies w v L qa va qb vb) {x : Nat} (hx : x ∈ v.ownBlock.toList) : x < w.heap.size := (World.ownsRow.lt h.its x (by simpa using hx)).2
theorem Lies.stepA {w w' : World} {v : Value} {L : List Itm} {qa qb : Nat} {va va' vb : Value} (h : Lies w v L qa va qb vb) (hk : Kept qa va w va' w') : Lies w' v L qa va' qb vb :=
  ⟨h.its.fr hk.1 (fun x hx => h.a x hx), fun x hx hy => by
    rcases List.mem_cons.1 hy with rfl | hy
    · exact h.a x hx (by simp)
    · rcases hk.2 x hy with h1 | h1
      · exact h.a x hx (by simp [h1])
      · exact absurd (h.lt hx) (by omega), h.b⟩

/-! ### what is ahead of a place -/
def ne (k : Int) (y : Itm) : Bool := y.order != k
def atOf (S : List Itm) (k : Int) (i : Nat) : Nat := ((S.take i).filter (ne k)).length
theorem atOf_zero (S : List Itm) (k : Int) : atOf S k 0 = 0 := rfl
theorem atOf_yes {S : List Itm} {k : Int} {i : Nat} (hi : i < S.length) (h : (at' S i).order ≠ k) : atOf S k (i + 1) = atOf S k i + 1 ∧ atOf S k i < (without S k).length ∧ at' (without S k) (atOf S k i) = at' S i := by
  have h1 : S.take (i + 1) = S.take i ++ [at' S i] := by rw [List.take_succ_eq_append_getElem hi, at_eq hi]
  have h2 : ne k (at' S i) = true := by simpa [ne] using h
  have h3 : S = S.take i ++ (at' S i :: S.drop (i + 1)) := by
    rw [at_eq hi, List.getElem_cons_drop, List.take_append_drop]
  have h4 : without S k = (S.take i).filter (ne k) ++ (at' S i :: (S.drop (i + 1)).filter (ne k)) := by
    show S.filter (ne k) = _
    conv => lhs; rw [h3]
    rw [List.filter_append, List.filter_cons, if_pos h2]
  refine ⟨?_, ?_, ?_⟩
  · unfold atOf
    rw [h1, List.filter_append, List.length_append, List.filter_cons, if_pos h2]
    rfl
  · rw [h4, List.length_append]
    show atOf S k i < atOf S k i + _
    simp
  · rw [h4]
    unfold atOf
    generalize (S.take i).filter (ne k) = A
    generalize at' S i = y
    unfold at'
    rw [List.getD_eq_getElem?_getD, List.getElem?_append_right (Nat.le_refl _), Nat.sub_self]
    rfl
theorem atOf_no {S : List Itm} {k : Int} {i : Nat} (hi : i < S.length) (h : (at' S i).order = k) : atOf S k (i + 1) = atOf S k i := by
  have h1 : S.take (i + 1) = S.take i ++ [at' S i] := by rw [List.take_succ_eq_append_getElem hi, at_eq hi]
  have h2 : ne k (at' S i) = false := by simpa [ne] using h
  unfold atOf
  rw [h1, List.filter_append, List.length_append, List.filter_cons, if_neg (by simp [h2])]
  simp

theorem ins_place (x : Itm) : ∀ S : List Itm, ∃ p, p ≤ S.length ∧ ins x S = S.take p ++ x :: S.drop p
  | [] => ⟨0, Nat.le_refl _, rfl⟩
  | y :: S => by
    rw [ins]
    split
    · obtain ⟨p, hp, e⟩ := ins_place x S
      exact ⟨p + 1, by simp; omega, by rw [e]; rfl⟩
    · exact ⟨0, Nat.zero_le _, rfl⟩

def wasOf (p i : Nat) : Nat := if i ≤ p then i else i + 1
/-- Where the next one stands among those that are more. -/
theorem wasOf_at {S M : List Itm} {x : Itm} {p i : Nat} (hp : p ≤ S.length) (hM : M = S.take p ++ x :: S.drop p) :
    (at' M (wasOf p i) = x ∧ i = p ∧ at' M (wasOf p i + 1) = at' S i ∧ wasOf p i + 1 + 1 = wasOf p (i + 1)) ∨ (i ≠ p ∧ at' M (wasOf p i) = at' S i ∧ wasOf p i + 1 = wasOf p (i + 1)) := by
  subst hM
  have hl : (S.take p).length = p := by simp; omega
  have ha : ∀ j, j < p → at' (S.take p ++ x :: S.drop p) j = at' S j := fun j hj => by
    unfold at'
    rw [List.getD_eq_getElem?_getD, List.getD_eq_getElem?_getD, List.getElem?_append_left (by omega), List.getElem?_take_of_lt hj]
  have hx : at' (S.take p ++ x :: S.drop p) p = x := by
    unfold at'
    rw [List.getD_eq_getElem?_getD, List.getElem?_append_right (by omega), hl, Nat.sub_self]
    rfl
  have hb : ∀ j, p ≤ j → at' (S.take p ++ x :: S.drop p) (j + 1) = at' S j := fun j hj => by
    unfold at'
    rw [List.getD_eq_getElem?_getD, List.getD_eq_getElem?_getD, List.getElem?_append_right (by omega), hl, show j + 1 - p = (j - p) + 1 by omega, List.getElem?_cons_succ, List.getElem?_drop, show p + (j - p) = j by omega]
  unfold wasOf
  by_cases h1 : i = p
  · subst h1
    refine .inl ⟨by rw [if_pos (Nat.le_refl _)]; exact hx, rfl, by rw [if_pos (Nat.le_refl _)]; exact hb _ (Nat.le_refl _), by rw [if_pos (Nat.le_refl _), if_neg (by omega)]⟩
  · refine .inr ⟨h1, ?_, ?_⟩
    · by_cases h2 : i ≤ p
      · rw [if_pos h2]; exact ha i (by omega)
      · rw [if_neg h2]; exact hb i (by omega)
    · by_cases h2 : i ≤ p
      · rw [if_pos h2, if_pos (by omega)]
      · rw [if_neg h2, if_neg (by omega)]

theorem without_len {S : List Itm} {k : Int} {n : Nat} (hl : S.length = n + 1) (hu : S.Pairwise (fun a b => a.order ≠ b.order)) {x : Itm} (hx : x ∈ S) (ho : x.order = k) : (without S k).length = n := by
  induction S generalizing n with
  | nil => cases hx
  | cons y S ih =>
    have hy : ∀ u, u ∈ S → y.order ≠ u.order := fun u hu' => List.rel_of_pairwise_cons hu hu'
    unfold without
    rw [List.filter_cons]
    by_cases e : y.order = k
    · rw [if_neg (by simp [e])]
      have : S.filter (fun z => z.order != k) = S := List.filter_eq_self.2 (fun z hz => by have := hy z hz; simp; omega)
      rw [this]
      simpa using hl
    · rw [if_pos (by simpa using e)]
      rcases List.mem_cons.1 hx with rfl | hx
      · exact absurd ho e
      · obtain ⟨m, rfl⟩ : ∃ m, n = m + 1 := ⟨n - 1, by
          have := List.length_pos_of_mem hx
          simp at hl
          omega⟩
        have := ih (n := m) (by simpa using hl) (List.Pairwise.of_cons hu) hx
        unfold without at this
        simpa using this
theorem without_mem {S : List Itm} {k : Int} : ∀ x, x ∈ without S k → x.order ≠ k := fun x hx => by
  have := (List.mem_filter.1 hx).2
  simpa using this

theorem qsFacts {w : World} {q : Nat} {v : Value} {S : List Itm} {last : Int} (h : QS w q v S last) : S.Pairwise (fun a b => a.order ≠ b.order) ∧ ∀ x, x ∈ S → 1 ≤ x.order ∧ x.order ≤ last := by
  obtain ⟨L, _, hO⟩ := h
  exact ⟨hO.uniq, hO.bound⟩
end Go.Proofs.Ytbafgheblindmaa.queueDrops
