/-
  queue.items: Pop: the contract.
-/
import Derived.Test.YtbafgheblindmaaQPush
namespace Go.Proofs.Ytbafgheblindmaa
open Go.RowKit

theorem Its.cut {w : World} {g n c : Nat} {L : List Itm} (h : Its w (.slice (some ⟨g, 0, none⟩) (n + 1) c) L) (hl : L.length = n + 1) : Its w (.slice (some ⟨g, 0, none⟩) n c) (L.take n) := by
  unfold Its at *
  rw [hl] at h
  have := ownsRow_cut h (m := n) (by omega)
  rw [List.length_take, Nat.min_eq_left (by omega), flat_take]
  exact this

theorem QB.cut {L : List Itm} {q g n c : Nat} {last : Int} {w w0 : World} (hB : QB w q (.slice (some ⟨g, 0, none⟩) (n + 1) c) L last) (hl : L.length = n + 1) (h0 : Fr [] w w0) :
    QB (w0.setCell ⟨q, 0, none⟩ (.slice (some ⟨g, 0, none⟩) n c)) q (.slice (some ⟨g, 0, none⟩) n c) (L.take n) last ∧ Kept q (.slice (some ⟨g, 0, none⟩) (n + 1) c) w (.slice (some ⟨g, 0, none⟩) n c) (w0.setCell ⟨q, 0, none⟩ (.slice (some ⟨g, 0, none⟩) n c)) := by
  have hb := (hB.blk.fr0 h0).set 0 (.slice (some ⟨g, 0, none⟩) n c)
  have hne := hB.ne
  refine ⟨⟨hb, ?_, hne⟩, (h0.wide0).setCell (.inl (by simp)) _, fun y hy => .inl hy⟩
  exact ((hB.its.fr0 h0).cut hl).fr ((Fr.refl [q] w0).setCell (p := ⟨q, 0, none⟩) (.inl (by simp)) _) (fun y hy e => by simp at e; subst e; exact hne hy)

set_option maxHeartbeats 1000000 in
theorem iPop (L : List Itm) (q g n c : Nat) (last : Int) (w : World) (hB : QB w q (.slice (some ⟨g, 0, none⟩) (n + 1) c) L last) (hl : L.length = n + 1) (hm : n + 1 ≤ 4096) :
    Calls Try.prog 82 #[.pointer (some ⟨q, 0, none⟩)] w fun e w' => e = .returned (.iface 31 (.agg (at' L n).cells.toArray)) ∧ QB w' q (.slice (some ⟨g, 0, none⟩) n c) (L.take n) last ∧ Kept q (.slice (some ⟨g, 0, none⟩) (n + 1) c) w (.slice (some ⟨g, 0, none⟩) n c) w' := by
  have hc : n + 1 ≤ c := by
    rcases hB.its.shape with ⟨h, _⟩ | ⟨g', c', h, _, h2, _⟩
    · cases h
    · injection h with _ h4 h5; omega
  have hq : w.cell? ⟨q, 0, none⟩ = some (.slice (some ⟨g, 0, none⟩) (n + 1) c) := hB.blk.cellAt (i := 0) rfl
  have hz := hB.blk.froz 0
  obtain ⟨a0, a1, a2, a3⟩ := hB.its.cells4 rfl (j := n) (by omega)
  have hlt := hB.blk.lt
  have HB := Lib.hid hB
  have HL := Lib.hid hl
  clear hB hl
  generalize at' L n = x at *
  unfold Itm.cells
  go_enter Try.func82, Try.ntmps82
  go_wp2_with fail
  go_ret
  have P := QB.cut HB.out HL.out (Fr.refl _ _)
  exact ⟨rfl, P.1.fr0 ((Fr.refl _ _).alloc _), P.2.fr0 ((Fr.refl _ _).alloc _)⟩
end Go.Proofs.Ytbafgheblindmaa
