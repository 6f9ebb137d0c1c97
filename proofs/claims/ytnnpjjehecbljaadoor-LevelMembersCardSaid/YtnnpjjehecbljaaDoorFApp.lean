/-
  append to a row of one's own, with word where the new row lies; as a step of a drawn region.
-/
import Derived.Test.YtnnpjjehecbljaaDoorFBase
import Derived.Deep.RegionLawGrows
namespace Go.Proofs.YtnnpjjehecbljaaDoor
open Go.RowKit

theorem run_app_own {P : Program} {w : World} (base : Nat) (t ty e : TypeId) (i : TypeInfo) (z : Value) (size bytes : Nat) (ht : P.underlying t = some (.slice e)) (hi : P.info? e = some i) (hz : i.zero = some z)
    (hsize : i.size = size) (hby : i.bytes = bytes) (hzs : z.cells.size = size) (hsz : 0 < size)
    (v : Value) (n : Nat) (xs : List Value) (hown : w.ownsRow base e size v n xs)
    (a : Addr) (m c : Nat) (news : List Value) (hl : news.length = m * size) (hnews : ∀ j u, news[j]? = some u → w.cell? (a.add j) = some u) (h1 : ∀ u ∈ news, u.oneCell' = true)
    (h63 : n + m ≤ maxLen) (hbytes : (n + m) * bytes ≤ 140737488355328) (hbase : base ≤ w.heap.size) :
    ∃ v' w', (Builtin.append_ #[t, t] ty #[v, .slice (some a) m c]).run P w = .ok v' w' ∧ w'.ownsRow base e size v' (n + m) (xs ++ news) ∧ w.grownBy w' v.ownBlock ∧
      (∀ x, x ∈ v'.ownBlock.toList → x ∈ v.ownBlock.toList ∨ w.heap.size ≤ x) := by
  obtain ⟨v', w', hrun, r1, r2, _⟩ := run_append_own (P := P) (w := w) base t ty e i z size bytes ht hi hz hsize hby hzs hsz v n xs hown a m c news hl hnews h1 h63 hbytes hbase
  refine ⟨v', w', hrun, r1, r2, fun x hx => ?_⟩
  rcases hown.2 with ⟨rfl, rfl⟩ | ⟨g, cap, cur, rfl, hg, hh, hn, hm, hs, htk⟩
  · obtain ⟨v2, w2, hrun2, q1, _⟩ := run_append_own (P := P) (w := w) w.heap.size t ty e i z size bytes ht hi hz hsize hby hzs hsz (.slice none 0 0) 0 [] (World.ownsRow_nil w _ e size) a m c news hl hnews h1 h63 hbytes (Nat.le_refl _)
    rw [hrun] at hrun2
    injection hrun2 with e1 e2
    subst e1; subst e2
    exact .inr ((World.ownsRow.lt q1) x (by simpa using hx)).1
  · by_cases hr : n + m ≤ cap
    · have hfr := run_append_room_cells (P := P) w t ty e i ht hi g 0 n cap a m c news (by rw [hl, hsize]) hnews h1 hr
        (fun j hj => by
          have : n * size + j < cur.size := by
            rw [hs]; have : (n + m) * size ≤ cap * size := Nat.mul_le_mul_right _ hr
            rw [Nat.add_mul] at this; omega
          rw [hsize]; simp [World.cell?, hh, this])
        (fun j _ => by simp [World.frozen?, hh])
      rw [hrun] at hfr
      injection hfr with e1 e2
      subst e1
      exact .inl hx
    · obtain ⟨v2, w2, hrun2, q1, _⟩ := run_append_arg_grows (P := P) w t ty e i z size bytes ht hi hz hsize hby hzs hsz ⟨g, 0, none⟩ n cap xs hown.1 (fun j u hu => World.ownsRow.cells (v := .slice (some ⟨g, 0, none⟩) n cap) hown rfl j u hu) a m c news hl hnews (by omega) h63 hbytes
      rw [hrun] at hrun2
      injection hrun2 with e1 e2
      subst e1; subst e2
      exact .inr ((World.ownsRow.lt q1) x (by simpa using hx)).1

theorem step_app_own {P : Program} {ops : Array Oper} {o : Oper} {a : Act} {w : World} {K : Act → World → Prop} {Q : Exit → Act → World → Prop} {E : Prop}
    (hg : o.guard = none) (s x : Operand) (t : TypeId) (hop : o.op = Op.call { callee := Callee.builtin Builtin.append, args := #[s, x], argTypes := #[t, t] })
    {e : TypeId} {z : Value} {size bytes : Nat} (hT : ElT P t e z size bytes) (v : Value) (n : Nat) (xs : List Value) (hs : a.eval s = v) (hown : w.ownsRow 0 e size v n xs)
    (ad : Addr) (m c : Nat) (news : List Value) (hx : a.eval x = .slice (some ad) m c) (hn : news.length = m * size) (hc : ∀ j u, news[j]? = some u → w.cell? (ad.add j) = some u) (h1c : ∀ u ∈ news, u.oneCell' = true)
    (b1 : n + m ≤ maxLen) (b2 : (n + m) * bytes ≤ 140737488355328)
    (hK : ∀ v' w', Hid (w'.ownsRow 0 e size v' (n + m) (xs ++ news)) → Hid (Fr v.ownBlock.toList w w') → Hid (∀ x, x ∈ v'.ownBlock.toList → x ∈ v.ownBlock.toList ∨ w.heap.size ≤ x) → K (a.put o.dst v') w') :
    if Region.wanted o (yielded ops a.tmps) = true then Oper.wp P o a w K Q else E := by
  have hw : Region.wanted o (yielded ops a.tmps) = true := by simp [Region.wanted, hg]
  rw [if_pos hw]
  obtain ⟨i, hi1, hi2, hi3, hi4⟩ := hT.hi
  obtain ⟨v', w', hrun, r1, r2, r3⟩ := run_app_own (P := P) (w := w) 0 t o.type e i z size bytes hT.ht hi1 hi2 hi3 hi4 hT.hz hT.hs v n xs hown ad m c news hn hc h1c b1 b2 (Nat.zero_le _)
  unfold Oper.wp
  simp [execOp, hop, resolve, invoke, builtin, hs, hx, hrun, Result.andThen]
  exact hK v' w' r1 (Fr.ofGrown r2) r3
end Go.Proofs.YtnnpjjehecbljaaDoor
