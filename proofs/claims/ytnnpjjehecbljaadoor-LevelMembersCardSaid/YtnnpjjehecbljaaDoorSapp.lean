/-
  append of one element to a slice of one's own, as chunks.
-/
import Derived.Test.YtnnpjjehecbljaaDoorSep
import Derived.Test.YtnnpjjehecbljaaDoorFApp
namespace Go.Proofs.YtnnpjjehecbljaaDoor
open Go.RowKit

/-- A slice of one's own: nil, or a row. -/
def slV (o : Option (Nat × Nat)) (n : Nat) : Value := match o with | none => .slice none 0 0 | some (g, cap) => .slice (some ⟨g, 0, none⟩) n cap
def slH (e : TypeId) (o : Option (Nat × Nat)) (l : List Value) : List Ck := match o with | none => [] | some (g, cap) => [(g, .row e cap l)]
theorem Ck.owns {w : World} {g cap : Nat} {e : TypeId} {l : List Value} (h : Ck.in (g, .row e cap l) w) : w.ownsRow 0 e 1 (.slice (some ⟨g, 0, none⟩) l.length cap) l.length l := by
  obtain ⟨o, h1, cur, rfl, h2, h3, h4, h5⟩ := h
  exact ⟨by simp, Or.inr ⟨g, cap, cur, rfl, Nat.zero_le _, h1, h3, h4, by omega, by rw [Nat.mul_one]; exact h5⟩⟩
theorem Ck.of_owns {w : World} {n : Nat} {v : Value} {e : TypeId} {l : List Value} (h : w.ownsRow 0 e 1 v n l) (hl : l ≠ []) : ∃ g cap, v = .slice (some ⟨g, 0, none⟩) l.length cap ∧ n = l.length ∧ Ck.in (g, .row e cap l) w := by
  obtain ⟨h0, h | ⟨g, cap, cur, rfl, hB, h1, h2, h3, h4, h5⟩⟩ := h
  · exfalso
    have h2 : n = 0 := h.2
    apply hl
    apply List.eq_nil_of_length_eq_zero
    omega
  · have hn : n = l.length := by omega
    subst hn
    exact ⟨g, cap, rfl, rfl, _, h1, cur, rfl, by omega, h2, h3, by rw [Nat.mul_one] at h5; exact h5⟩
theorem run_apS {P : Program} {t e : TypeId} {z : Value} {bytes : Nat} (hT : ElT P t e z 1 bytes) (o : Option (Nat × Nat)) {F : List Nat} {w0 w : World} {H : List Ck} {l : List Value} {u : Value} {vb c : Nat} (ty : TypeId)
    (hS : Sat F w0 (slH e o l ++ H) w) (ho : o = none → l = []) (hv : Blk w vb #[u] e) (h1 : u.oneCell' = true) (h63 : l.length + 1 ≤ maxLen) (hb : (l.length + 1) * bytes ≤ 140737488355328) :
    ∃ g' cap' w', (Builtin.append_ #[t, t] ty #[slV o l.length, .slice (some ⟨vb, 0, none⟩) 1 c]).run P w = .ok (.slice (some ⟨g', 0, none⟩) (l.length + 1) cap') w' ∧ Sat F w0 ((g', .row e cap' (l ++ [u])) :: H) w' := by
  obtain ⟨i, hi1, hi2, hi3, hi4⟩ := hT.hi
  have hown : w.ownsRow 0 e 1 (slV o l.length) l.length l := by
    cases o with
    | none => rw [ho rfl]; exact World.ownsRow_nil w 0 e 1
    | some x => exact Ck.owns (hS.all _ (List.mem_append.2 (.inl (List.mem_singleton.2 rfl))))
  obtain ⟨v', w', hrun, r1, r2, r3⟩ := run_app_own (P := P) (w := w) 0 t ty e i z 1 bytes hT.ht hi1 hi2 hi3 hi4 hT.hz hT.hs (slV o l.length) l.length l hown ⟨vb, 0, none⟩ 1 c [u] rfl
    (fun j v hj => by
      cases j with
      | zero => have : u = v := by simpa using hj
                subst this; exact hv.cellAt rfl
      | succ j => simp at hj) (fun x hx => by simp at hx; subst hx; exact h1) h63 hb (Nat.zero_le _)
  obtain ⟨g', cap', rfl, hn, hin⟩ := Ck.of_owns r1 (by simp)
  refine ⟨g', cap', w', by rw [hrun]; simp, ?_⟩
  have hf : Fr (slV o l.length).ownBlock.toList w w' := Fr.ofGrown r2
  have hg := r3 g' (by simp [Value.ownBlock])
  have hk : Sat ((slH e o l).map (·.1)) w [(g', .row e cap' (l ++ [u]))] w' := by
    have e1 : (slH e o l).map (·.1) = (slV o l.length).ownBlock.toList := by cases o <;> rfl
    rw [e1]
    exact Sat.one hf hin hg
  exact Sat.trans hS hk
/-- 'append(s, x)' in a walk. -/
theorem wpList_apS {P : Program} {ops : Array Oper} {Q : Exit → Act → World → Prop} {rest : List Oper} {a : Act} {w : World} {d : Option Tmp} {ty : TypeId} {pos : String} {af : Array Edge}
    {t e : TypeId} {z : Value} {bytes : Nat} (hT : ElT P t e z 1 bytes) (s x : Operand) (o : Option (Nat × Nat)) {F : List Nat} {w0 : World} {H : List Ck} {l : List Value} {u : Value} {vb c : Nat}
    (hS : Sat F w0 (slH e o l ++ H) w) (ho : o = none → l = []) (hs : a.eval s = slV o l.length) (hx : a.eval x = .slice (some ⟨vb, 0, none⟩) 1 c) (hv : Blk w vb #[u] e) (h1 : u.oneCell' = true) (h63 : l.length + 1 ≤ maxLen) (hb : (l.length + 1) * bytes ≤ 140737488355328)
    (h : ∀ g' cap' w', Sat F w0 ((g', .row e cap' (l ++ [u])) :: H) w' → wpList P ops Q rest (a.put d (.slice (some ⟨g', 0, none⟩) (l.length + 1) cap')) w') :
    wpList P ops Q (⟨d, .call { callee := .builtin .append, args := #[s, x], argTypes := #[t, t] }, ty, pos, af, none⟩ :: rest) a w := by
  obtain ⟨g', cap', w', hrun, h2⟩ := run_apS (c := c) hT o ty hS ho hv h1 h63 hb
  refine wpList_run rfl (v := .slice (some ⟨g', 0, none⟩) (l.length + 1) cap') (w1 := w') ?_ (h g' cap' w' h2)
  generalize a.eval = ρ at hs hx
  simp [execOp, resolve, invoke, builtin, hs, hx, hrun, Result.andThen]
/-- .. and as a step of a region that draws. -/
theorem step_apS {P : Program} {ops : Array Oper} {op : Oper} {a : Act} {w : World} {K : Act → World → Prop} {Q : Exit → Act → World → Prop} {E : Prop}
    (hg : op.guard = none) (s x : Operand) (t : TypeId) (hop : op.op = Op.call { callee := Callee.builtin Builtin.append, args := #[s, x], argTypes := #[t, t] })
    {e : TypeId} {z : Value} {bytes : Nat} (hT : ElT P t e z 1 bytes) (o : Option (Nat × Nat)) {F : List Nat} {w0 : World} {H : List Ck} {l : List Value} {u : Value} {vb c : Nat}
    (hS : Sat F w0 (slH e o l ++ H) w) (ho : o = none → l = []) (hs : a.eval s = slV o l.length) (hx : a.eval x = .slice (some ⟨vb, 0, none⟩) 1 c) (hv : Blk w vb #[u] e) (h1 : u.oneCell' = true) (h63 : l.length + 1 ≤ maxLen) (hb : (l.length + 1) * bytes ≤ 140737488355328)
    (h : ∀ g' cap' w', Sat F w0 ((g', .row e cap' (l ++ [u])) :: H) w' → K (a.put op.dst (.slice (some ⟨g', 0, none⟩) (l.length + 1) cap')) w') :
    if Region.wanted op (yielded ops a.tmps) = true then Oper.wp P op a w K Q else E := by
  have hw : Region.wanted op (yielded ops a.tmps) = true := by simp [Region.wanted, hg]
  rw [if_pos hw]
  obtain ⟨g', cap', w', hrun, h2⟩ := run_apS (c := c) hT o op.type hS ho hv h1 h63 hb
  unfold Oper.wp
  simp [execOp, hop, resolve, invoke, builtin, hs, hx, hrun, Result.andThen]
  exact h g' cap' w' h2
end Go.Proofs.YtnnpjjehecbljaaDoor
