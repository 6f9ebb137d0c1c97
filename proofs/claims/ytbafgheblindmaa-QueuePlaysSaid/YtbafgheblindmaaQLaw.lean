/-
  Plain law: what each deed makes of a queue's order.
-/
import Derived.Test.YtbafgheblindmaaQBase
namespace Go.Proofs.Ytbafgheblindmaa

theorem QOk.nil : QOk [] [] 0 :=
  ⟨fun k h0 h => absurd h (by simp), .refl _, List.Pairwise.nil, fun x h => absurd h (by simp), List.Pairwise.nil, by simp, by omega⟩

theorem QOk.len {L S : List Itm} {last : Int} (h : QOk L S last) : L.length = S.length := h.perm.length_eq

theorem QOk.add {L S L' : List Itm} {last : Int} {x : Itm} (h : QOk L S last) (hl : L.length < 4096) (hx : x.order = last + 1) (hh : Heap (L.length + 1) L') (hp : L'.Perm (L ++ [x])) :
    QOk L' (ins x S) (last + 1) := by
  have hl' : L'.length = L.length + 1 := by rw [hp.length_eq]; simp
  have hi := ins_perm x S
  refine ⟨by rwa [hl'], ?_, ins_sorted h.sorted (fun y hy => by have := h.bound y hy; omega), fun y hy => ?_, ?_, by omega, by have := h.last0; omega⟩
  · exact (hp.trans ((List.perm_append_singleton x L).trans (List.Perm.cons x h.perm))).trans hi.symm
  · rcases List.mem_cons.1 (hi.mem_iff.1 hy) with rfl | hy
    · have := h.last0; omega
    · have := h.bound y hy; omega
  · refine (hi.symm.pairwise_iff (R := fun a b : Itm => a.order ≠ b.order) (fun h e => h e.symm)).1 ?_
    exact List.Pairwise.cons (fun y hy => by have := h.bound y hy; omega) h.uniq

theorem QOk.top {L S : List Itm} {s : Itm} {last : Int} (h : QOk L (s :: S) last) : at' L 0 = s := top_eq h.heap h.perm h.sorted

theorem QOk.pop {L S L' : List Itm} {s : Itm} {last : Int} {n : Nat} (h : QOk L (s :: S) last) (hl : L.length = n + 1) (hh : Heap n L') (hp : L'.Perm L) (ht : at' L' n = at' L 0) : QOk (L'.take n) S last := by
  have hl' : L'.length = n + 1 := by rw [hp.length_eq, hl]
  have e := take_last hl'
  rw [ht, h.top] at e
  have hR : (L'.take n).Perm S := pop_perm (by rw [← e]; exact hp.trans h.perm)
  exact ⟨hh.take (by omega), hR, List.Pairwise.of_cons h.sorted, fun x hx => h.bound x (by simp [hx]), List.Pairwise.of_cons h.uniq, by simp; have := h.room; omega, h.last0⟩

theorem QOk.drop {L S L' : List Itm} {last : Int} {n i : Nat} (h : QOk L S last) (hl : L.length = n + 1) (hh : Heap n L') (hp : L'.Perm L) (ht : at' L' n = at' L i) :
    QOk (L'.take n) (S.filter (fun y => y.order != (at' L i).order)) last := by
  have hl' : L'.length = n + 1 := by rw [hp.length_eq, hl]
  have e := take_last hl'
  rw [ht] at e
  generalize at' L i = x at *
  have hS : S.Perm (x :: L'.take n) := by
    refine ((hp.trans h.perm).symm).trans ?_
    have h1 : L'.Perm (L'.take n ++ [x]) := by rw [← e]
    exact h1.trans (List.perm_append_singleton x _)
  have hu := (hS.pairwise_iff (R := fun a b : Itm => a.order ≠ b.order) (fun h e => h e.symm)).1 h.uniq
  have hf : (L'.take n).Perm (S.filter (fun y => y.order != x.order)) := by
    refine List.Perm.trans ?_ (hS.filter _).symm
    rw [List.filter_cons, if_neg (by simp), List.filter_eq_self.2 (fun y hy => by have := List.rel_of_pairwise_cons hu hy; simpa using fun e => this e.symm)]
  exact ⟨hh.take (by omega), hf, List.Pairwise.filter _ h.sorted, fun y hy => h.bound y (List.mem_filter.1 hy).1, List.Pairwise.filter _ h.uniq, by simp; have := h.room; omega, h.last0⟩

end Go.Proofs.Ytbafgheblindmaa
