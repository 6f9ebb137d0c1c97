/-
  pintleref18's Queue: words; slices of a row; append from a row, or nil.
-/
import Derived.Test.YtbafgheblindmaaQNx
import Derived.Laws.AppendOwnNone
import Derived.Deep.DeepCutAuto
namespace Go.Proofs.Ytbafgheblindmaa
open Go.RowKit

theorem refT : ElT Try.prog 42 50 (.agg #[.int .u64 0, .int .u64 0, .int .i64 0, .string ⟨#[]⟩]) 4 40 := ElT.mk' Try.underlying42 (by kernel_rfl) rfl (by decide)

/-- What is appended: nothing, or cells that lie in a row. -/
def Src (w : World) (v : Value) (m : Nat) (news : List Value) : Prop :=
  (v = .slice none 0 0 ∧ m = 0 ∧ news = []) ∨ ∃ ad c, v = .slice (some ad) m c ∧ news.length = m * 4 ∧ ∀ j u, news[j]? = some u → w.cell? (ad.add j) = some u
theorem Src.fr {S : List Nat} {w w' : World} {v : Value} {m : Nat} {news : List Value} (h : Src w v m news) (hf : Fr S w w') (hS : ∀ ad c, v = .slice (some ad) m c → ad.block ∉ S) : Src w' v m news := by
  rcases h with h | ⟨ad, c, rfl, hl, hc⟩
  · exact .inl h
  · refine .inr ⟨ad, c, rfl, hl, fun j u hu => ?_⟩
    have h1 := hc j u hu
    have hb : (ad.add j).block = ad.block := by unfold Addr.add; split <;> rfl
    refine (World.cell?_of_block (w := w) (hf.block _ (World.block_lt_of_cell? w _ h1) ?_)).trans h1
    rw [hb]
    exact hS ad c rfl

theorem wpList_appR {P : Program} {ops : Array Oper} {Q : Exit → Act → World → Prop} {rest : List Oper} {a : Act} {w : World} {d : Option Tmp} {ty : TypeId} {pos : String} {af : Array Edge}
    {t e : TypeId} {z : Value} {bytes : Nat} (hT : ElT P t e z 4 bytes) (s x : Operand) (base : Nat) (v : Value) (n : Nat) (xs : List Value) (hs : a.eval s = v) (hown : w.ownsRow base e 4 v n xs)
    (xv : Value) (m : Nat) (news : List Value) (hx : a.eval x = xv) (hsrc : Src w xv m news) (h1 : ∀ u ∈ news, u.oneCell' = true)
    (h63 : n + m ≤ maxLen) (hbytes : (n + m) * bytes ≤ 140737488355328) (hbase : base ≤ w.heap.size)
    (h : ∀ v' w', Hid (w'.ownsRow base e 4 v' (n + m) (xs ++ news)) → Hid (Fr v.ownBlock.toList w w') → wpList P ops Q rest (a.put d v') w') :
    wpList P ops Q (⟨d, .call { callee := .builtin .append, args := #[s, x], argTypes := #[t, t] }, ty, pos, af, none⟩ :: rest) a w := by
  rcases hsrc with ⟨rfl, rfl, rfl⟩ | ⟨ad, c, rfl, hl, hc⟩
  · obtain ⟨i, hi1, hi2, hi3, hi4⟩ := hT.hi
    refine wpList_append_own_none rfl s x t rfl base e i 4 hT.ht hi1 v n xs hs hown hx ?_
    exact h v w (Lib.hid (by simpa using hown)) (Fr.refl _ _)
  · exact wpList_app hT s x base v n xs hs hown ad m c news hx hl hc h1 h63 hbytes hbase h

theorem wpList_sliceHi {P : Program} {ops : Array Oper} {Q : Exit → Act → World → Prop} {rest : List Oper} {a : Act} {w : World} {d : Option Tmp} {ty : TypeId} {pos : String} {af : Array Edge}
    (t : TypeId) (x y : Operand) (v u v2 : Value) (hx : a.eval x = v) (hy : a.eval y = u) (hr : (Instr.sliceAt t v none (some u) none).run P w = .ok v2 w)
    (h : wpList P ops Q rest (a.put d v2) w) : wpList P ops Q (⟨d, .slice t x none (some y) none, ty, pos, af, none⟩ :: rest) a w := by
  refine wpList_run rfl (v := v2) (w1 := w) ?_ h
  generalize a.eval = ρ at hx hy
  simp [execOp, hx, hy, hr, go_sem]

theorem wpList_sliceLo {P : Program} {ops : Array Oper} {Q : Exit → Act → World → Prop} {rest : List Oper} {a : Act} {w : World} {d : Option Tmp} {ty : TypeId} {pos : String} {af : Array Edge}
    (t : TypeId) (x y : Operand) (v u v2 : Value) (hx : a.eval x = v) (hy : a.eval y = u) (hr : (Instr.sliceAt t v (some u) none none).run P w = .ok v2 w)
    (h : wpList P ops Q rest (a.put d v2) w) : wpList P ops Q (⟨d, .slice t x (some y) none none, ty, pos, af, none⟩ :: rest) a w := by
  refine wpList_run rfl (v := v2) (w1 := w) ?_ h
  generalize a.eval = ρ at hx hy
  simp [execOp, hx, hy, hr, go_sem]

theorem refElem : Try.prog.underlying 42 = some (.slice (Try.prog.elem 42)) := by kernel_rfl
theorem refSize (w : World) : (sizeOf (Try.prog.elem 42)).run Try.prog w = .ok 4 w := by
  have h : Try.prog.elem 42 = 50 := by kernel_rfl
  rw [h]
  exact Try.sizeOf50 w

theorem flat_drop (L : List Itm) (n : Nat) : flat (L.drop n) = (flat L).drop (n * 4) := by
  have h := flat_take L n
  have e : flat L = flat (L.take n) ++ flat (L.drop n) := by rw [← flat_app, List.take_append_drop]
  by_cases hn : n ≤ L.length
  · have hl : (flat (L.take n)).length = n * 4 := by rw [flat_length, List.length_take, Nat.min_eq_left hn]
    rw [e, ← hl, List.drop_left]
  · have h1 : L.drop n = [] := List.drop_of_length_le (by omega)
    have h2 : (flat L).drop (n * 4) = [] := List.drop_of_length_le (by rw [flat_length]; omega)
    rw [h1, h2]
    rfl

/-- 's[:k]' of a row that is owned. -/
theorem cutHi {w : World} {base : Nat} {v : Value} {L : List Itm} (h : w.ownsRow base 50 4 v L.length (flat L)) {k : Nat} (hk : k ≤ L.length) :
    ∃ v2, (∀ w', (Instr.sliceAt 42 v none (some (.int .i64 (k : Int))) none).run Try.prog w' = .ok v2 w') ∧ Src w v2 k (flat (L.take k)) ∧ ∀ ad c, v2 = .slice (some ad) k c → some ad.block = v.ownBlock := by
  have hc := fun g hg => World.ownsRow.cells h (g := g) hg
  rcases h.2 with ⟨rfl, h3⟩ | ⟨g, cap, cur, rfl, hb, hh, hn, hm, r⟩
  · obtain rfl : k = 0 := by omega
    refine ⟨.slice none 0 0, fun w' => ?_, .inl ⟨rfl, rfl, rfl⟩, fun ad c e => by cases e⟩
    rw [run_sliceAt_slice w' _ _ _ _ _ refElem, run_slice_h w' _ none 0 0 refElem .i64 _ (by omega) (by omega), refSize]
    rfl
  · refine ⟨.slice (some ⟨g, 0, none⟩) k cap, fun w' => ?_, .inr ⟨⟨g, 0, none⟩, cap, rfl, ?_, ?_⟩, fun ad c e => by cases e; rfl⟩
    · rw [run_sliceAt_slice w' _ _ _ _ _ refElem, run_slice_h w' _ _ _ cap refElem .i64 _ (by omega) (by omega), refSize]
      simp [Result.andThen, sliced, Addr.add]
    · rw [flat_length, List.length_take]; omega
    · intro j u hu
      rw [flat_take] at hu
      refine hc g rfl j u ?_
      have hj : j < k * 4 := by
        rcases Nat.lt_or_ge j (k * 4) with h1 | h1
        · exact h1
        · rw [List.getElem?_take_eq_none h1] at hu; cases hu
      rwa [List.getElem?_take_of_lt hj] at hu

/-- 's[k:]' of a row that is owned. -/
theorem cutLo {w : World} {base : Nat} {v : Value} {L : List Itm} (h : w.ownsRow base 50 4 v L.length (flat L)) {k : Nat} (hk : k ≤ L.length) :
    ∃ v2, (∀ w', (Instr.sliceAt 42 v (some (.int .i64 (k : Int))) none none).run Try.prog w' = .ok v2 w') ∧ Src w v2 (L.length - k) (flat (L.drop k)) ∧ ∀ ad c, v2 = .slice (some ad) (L.length - k) c → some ad.block = v.ownBlock := by
  have hc := fun g hg => World.ownsRow.cells h (g := g) hg
  rcases h.2 with ⟨rfl, h3⟩ | ⟨g, cap, cur, rfl, hb, hh, hn, hm, r⟩
  · obtain rfl : k = 0 := by omega
    have hL : L = [] := List.eq_nil_of_length_eq_zero h3
    subst hL
    refine ⟨.slice none 0 0, fun w' => ?_, .inl ⟨rfl, rfl, rfl⟩, fun ad c e => by cases e⟩
    rw [run_sliceAt_slice w' _ _ _ _ _ refElem, run_slice_l w' _ none 0 0 refElem .i64 _ (by omega) (by omega), refSize]
    rfl
  · have hlen : (flat (L.drop k)).length = (L.length - k) * 4 := by rw [flat_length, List.length_drop]
    by_cases hck : cap = k
    · refine ⟨.slice (some ⟨g, 0, none⟩) (L.length - k) (cap - k), fun w' => ?_, .inr ⟨⟨g, 0, none⟩, cap - k, rfl, hlen, ?_⟩, fun ad c e => by cases e; rfl⟩
      · rw [run_sliceAt_slice w' _ _ _ _ _ refElem, run_slice_l w' _ _ _ cap refElem .i64 _ (by omega) (by omega), refSize]
        simp [Result.andThen, sliced, hck]
      · intro j u hu
        have h0 : L.length - k = 0 := by omega
        rw [h0] at hlen
        have h1 : flat (L.drop k) = [] := List.eq_nil_of_length_eq_zero (by omega)
        rw [h1] at hu
        cases hu
    · refine ⟨.slice (some ((⟨g, 0, none⟩ : Addr).add (k * 4))) (L.length - k) (cap - k), fun w' => ?_, .inr ⟨_, cap - k, rfl, hlen, ?_⟩, fun ad c e => ?_⟩
      · rw [run_sliceAt_slice w' _ _ _ _ _ refElem, run_slice_l w' _ _ _ cap refElem .i64 _ (by omega) (by omega), refSize]
        simp [Result.andThen, sliced, hck]
      · intro j u hu
        rw [flat_drop, List.getElem?_drop] at hu
        have := hc g rfl (k * 4 + j) u hu
        rw [← this]
        unfold Addr.add
        by_cases h1 : k * 4 = 0 <;> by_cases h2 : j = 0 <;> simp [h1, h2]
      · injection e with e1 e2 e3
        injection e1 with e1
        rw [← e1]
        unfold Addr.add
        split <;> rfl

/-- The document's queue in memory. -/
structure RB (w : World) (q : Nat) (v : Value) (S : List Itm) (last : Int) : Prop where
  blk : Blk w q #[v, .int .u64 last] 44
  its : w.ownsRow 0 50 4 v S.length (flat S)
  ne : q ∉ v.ownBlock.toList
theorem RB.fr {T : List Nat} {w w' : World} {q : Nat} {v : Value} {S : List Itm} {last : Int} (h : RB w q v S last) (hf : Fr T w w') (hq : q ∉ T) (hn : ∀ x, x ∈ v.ownBlock.toList → x ∉ T) : RB w' q v S last :=
  ⟨h.blk.fr hf hq, ownsRow_fr h.its hf hn, h.ne⟩
theorem RB.fr0 {w w' : World} {q : Nat} {v : Value} {S : List Itm} {last : Int} (h : RB w q v S last) (hf : Fr [] w w') : RB w' q v S last := h.fr hf (by simp) (fun _ _ => by simp)
theorem RB.slice {w : World} {q : Nat} {v : Value} {S : List Itm} {last : Int} (h : RB w q v S last) : ∃ a c, v = .slice a S.length c := by
  rcases h.its.2 with ⟨rfl, h3⟩ | ⟨g, cap, cur, rfl, _⟩
  · exact ⟨none, 0, by rw [h3]⟩
  · exact ⟨_, _, rfl⟩
theorem RB.lt {w : World} {q : Nat} {v : Value} {S : List Itm} {last : Int} (h : RB w q v S last) {x : Nat} (hx : x ∈ q :: v.ownBlock.toList) : x < w.heap.size := by
  rcases List.mem_cons.1 hx with rfl | hx
  · exact h.blk.lt
  · exact (World.ownsRow.lt h.its x (by simpa using hx)).2
theorem row4 {w : World} {e : TypeId} {base : Nat} {v : Value} {L : List Itm} (h : w.ownsRow base e 4 v L.length (flat L)) {g : Nat} (hg : v.ownBlock = some g) {j : Nat} (hj : j < L.length) :
    w.cell? ⟨g, j * 4, none⟩ = some (.int .u64 (at' L j).time) ∧ w.cell? ⟨g, j * 4 + 1, none⟩ = some (.int .u64 (at' L j).order) ∧ w.cell? ⟨g, j * 4 + 2, none⟩ = some (.int .i64 (at' L j).to) ∧ w.cell? ⟨g, j * 4 + 3, none⟩ = some (.string (at' L j).data) := by
  have hcell : ∀ i, i < 4 → w.cell? ⟨g, j * 4 + i, none⟩ = (at' L j).cells[i]? := by
    intro i hi
    have h4 : (at' L j).cells.length = 4 := rfl
    have hu : (flat L)[j * 4 + i]? = some ((at' L j).cells[i]'(by omega)) := by
      rw [flat_get L j hj i hi, at_eq hj, List.getElem?_eq_getElem]
    have := World.ownsRow.cells h hg (j * 4 + i) _ hu
    rw [List.getElem?_eq_getElem (by omega), ← this]
    simp only [Addr.add]
    split
    · rename_i e; simp at e; simp [e]
    · simp
  exact ⟨hcell 0 (by omega), hcell 1 (by omega), hcell 2 (by omega), hcell 3 (by omega)⟩
theorem RB.row {w : World} {q : Nat} {v : Value} {S : List Itm} {last : Int} (h : RB w q v S last) (hS : 0 < S.length) : ∃ g c, v = .slice (some ⟨g, 0, none⟩) S.length c := by
  rcases h.its.2 with ⟨rfl, h3⟩ | ⟨g, cap, cur, rfl, _⟩
  · omega
  · exact ⟨g, cap, rfl⟩
end Go.Proofs.Ytbafgheblindmaa
