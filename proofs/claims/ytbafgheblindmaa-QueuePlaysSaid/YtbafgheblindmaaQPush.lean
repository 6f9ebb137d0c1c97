/-
  queue.items: Push and Pop: contracts.
-/
import Derived.Test.YtbafgheblindmaaQApp
namespace Go.Proofs.Ytbafgheblindmaa
open Go.RowKit

theorem itemT : ElT Try.prog 58 31 (.agg #[.int .u64 0, .int .u64 0, .int .i64 0, .string ⟨#[]⟩]) 4 40 := ElT.mk' Try.underlying58 (by kernel_rfl) rfl (by decide)

/-- What a queue's deed leaves: its blocks alone are written. -/
def Kept (q : Nat) (v : Value) (w : World) (v' : Value) (w' : World) : Prop :=
  Fr (q :: v.ownBlock.toList) w w' ∧ (∀ x, x ∈ v'.ownBlock.toList → x ∈ v.ownBlock.toList ∨ w.heap.size ≤ x)

theorem Kept.refl (q : Nat) (v : Value) (w : World) : Kept q v w v w := ⟨Fr.refl _ _, fun _ h => .inl h⟩
theorem Kept.trans {q : Nat} {v v1 v2 : Value} {w w1 w2 : World} (h : Kept q v w v1 w1) (k : Kept q v1 w1 v2 w2) : Kept q v w v2 w2 :=
  ⟨h.1.trans k.1 (fun x hx => by
      rcases List.mem_cons.1 hx with rfl | hx
      · exact .inl (by simp)
      · rcases h.2 x hx with h1 | h1
        · exact .inl (by simp [h1])
        · exact .inr h1),
    fun x hx => by
      rcases k.2 x hx with h1 | h1
      · exact h.2 x h1
      · exact .inr (Nat.le_trans h.1.size h1)⟩
theorem Kept.fr {q : Nat} {v : Value} {w w' : World} (h : Fr v.ownBlock.toList w w') : Kept q v w v w' := ⟨h.wide (fun _ hx => by simp [hx]), fun _ h => .inl h⟩
theorem Kept.fr0 {q : Nat} {v v1 : Value} {w w1 w2 : World} (h : Kept q v w v1 w1) (k : Fr [] w1 w2) : Kept q v w v1 w2 := ⟨h.1.trans0 k, h.2⟩

theorem asrt (x : Value) (w : World) : (Instr.typeAssert (.iface 31 x) 20 31 false).run Try.prog w = .ok x w := by kernel_rfl
theorem asrtOk (x : Value) (w : World) : (Instr.typeAssert (.iface 31 x) 20 31 true).run Try.prog w = .ok (.tuple #[x, .bool true]) w := by kernel_rfl

theorem itemNew (w : World) (t : TypeId) (x : Itm) (j : Nat) (u : Value) (h : x.cells[j]? = some u) : (w.alloc (.cells x.cells.toArray t)).cell? ((⟨w.heap.size, 0, none⟩ : Addr).add j) = some u := by
  have hB := (Blk.new w x.cells.toArray t).cellAt (i := j) (v := u) (by simpa using h)
  rw [← hB]
  unfold Addr.add
  split
  · rename_i e; subst e; rfl
  · simp
theorem itemOne (x : Itm) (u : Value) (h : u ∈ x.cells) : u.oneCell' = true := by
  unfold Itm.cells at h
  simp at h
  rcases h with rfl | rfl | rfl | rfl <;> rfl

theorem own_slice {w : World} {base : Nat} {e : TypeId} {size : Nat} {v : Value} {n : Nat} {xs : List Value} (h : w.ownsRow base e size v n xs) : ∃ a c, v = .slice a n c := by
  rcases h.2 with ⟨rfl, h3⟩ | ⟨g, cap, cur, rfl, _⟩
  · exact ⟨none, 0, by rw [h3]⟩
  · exact ⟨_, _, rfl⟩

theorem flat_one (L : List Itm) (x : Itm) : flat L ++ x.cells = flat (L ++ [x]) := by simp [flat]

theorem QB.push {L : List Itm} {q : Nat} {v v1 : Value} {last : Int} {x : Itm} {w w0 w1 : World} (hB : QB w q v L last) (h0 : Fr [] w w0) (H1 : w1.ownsRow 0 31 4 v1 (L.length + 1) (flat L ++ x.cells)) (H2 : Fr v.ownBlock.toList w0 w1)
    (H3 : ∀ y, y ∈ v1.ownBlock.toList → y ∈ v.ownBlock.toList ∨ w0.heap.size ≤ y) : QB (w1.setCell ⟨q, 0, none⟩ v1) q v1 (L ++ [x]) last ∧ Kept q v w v1 (w1.setCell ⟨q, 0, none⟩ v1) := by
  have hb := ((hB.blk.fr0 h0).fr H2 hB.ne).set 0 v1
  have hne : q ∉ v1.ownBlock.toList := fun hq => by
    rcases H3 q hq with h | h
    · exact hB.ne h
    · have := (hB.blk.fr0 h0).lt; omega
  have hf : Fr (q :: v.ownBlock.toList) w (w1.setCell ⟨q, 0, none⟩ v1) := ((h0.wide0 (S := q :: v.ownBlock.toList)).trans1 (H2.wide (fun _ hx => by simp [hx]))).setCell (.inl (by simp)) _
  refine ⟨⟨hb, ?_, hne⟩, hf, fun y hy => ?_⟩
  · have h1 : Its w1 v1 (L ++ [x]) := by
      unfold Its
      rw [← flat_one]; simpa using H1
    exact h1.fr ((Fr.refl [q] w1).setCell (p := ⟨q, 0, none⟩) (.inl (by simp)) v1) (fun y hy e => by simp at e; subst e; exact hne hy)
  · rcases H3 y hy with h | h
    · exact .inl h
    · exact .inr (Nat.le_trans h0.size h)

set_option maxHeartbeats 1000000 in
theorem iPush (L : List Itm) (q : Nat) (v : Value) (last : Int) (x : Itm) (w : World) (hB : QB w q v L last) (hm : L.length ≤ 4095) :
    Calls Try.prog 83 #[.pointer (some ⟨q, 0, none⟩), .iface 31 (.agg x.cells.toArray)] w fun e w' => e = .returned (.tuple #[]) ∧ ∃ v', QB w' q v' (L ++ [x]) last ∧ Kept q v w v' w' := by
  have hq : w.cell? ⟨q, 0, none⟩ = some v := hB.blk.cellAt (i := 0) rfl
  have hq' : ∀ o, (w.alloc o).cell? ⟨q, 0, none⟩ = some v := fun o => (hB.blk.alloc o).cellAt (i := 0) rfl
  have hz := hB.blk.froz 0
  have hT := asrt
  have HB := Lib.hid hB
  have HN := Lib.hid (itemNew w.drew 31 x)
  have HO := Lib.hid (itemOne x)
  unfold Itm.cells at HN ⊢
  clear hB
  go_enter Try.func83, Try.ntmps83
  go_wp2
  go_region_law (refine step_app_own rfl (.tmp 7) (.tmp 10) 58 rfl itemT v L.length (flat L) (by simp [Act.eval, Act.put]) (World.ownsRow.alloc HB.out.its _) ⟨w.heap.size, 0, none⟩ 1 1 x.cells (by simp [Act.eval, Act.put]) rfl (fun j u hu => HN.out j u hu) HO.out (by simp [maxLen]; omega) (by omega) ?_; intro v1 w1 H1 H2 H3; (obtain ⟨a1, c1, rfl⟩ := own_slice H1.out); (have hq2 : w1.cell? ⟨q, 0, none⟩ = some v := (((HB.out.blk.fr0 (Fr.refl _ _).drew).alloc _).fr H2.out HB.out.ne).cellAt (i := 0) rfl); (have hz2 : w1.frozen? ⟨q, 0, none⟩ = false := (((HB.out.blk.fr0 (Fr.refl _ _).drew).alloc _).fr H2.out HB.out.ne).froz 0))
  all_goals go_end0
  all_goals exact ⟨rfl, _, HB.out.push (((Fr.refl _ _).drew).alloc _) H1.out H2.out H3.out⟩
end Go.Proofs.Ytbafgheblindmaa
