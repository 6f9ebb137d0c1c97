/-
  What an entry that may be has; what Apply tells: in plain Lean.
-/
import Derived.Test.YtnnpjjehecbljaaDoorLAns
namespace Go.Proofs.YtnnpjjehecbljaaDoor
open Go.RowKit

theorem ok_node (e : Ent) (h : e.ok = true) (hk : e.kind = 5) : 1 ≤ e.node ∧ e.node ≤ 7 := by
  unfold Ent.ok at h
  rw [hk] at h
  have h1 : fitB ⟨#[110]⟩ e.flds = true := by
    simp only [Bool.and_eq_true] at h
    exact h.2
  unfold fitB at h1
  simp only [Bool.not_eq_true', List.any_eq_false] at h1
  have h2 := h1 ⟨110, e.node != 0, nodeB e.node⟩ (by unfold Ent.flds; simp)
  have h3 : hasB ⟨#[110]⟩ 110 = true := by decide +kernel
  unfold Fld.bad at h2
  simp only [h3] at h2
  unfold nodeB at h2
  simp at h2
  omega
theorem ok_level (e : Ent) (h : e.ok = true) (hk : e.kind = 7) : 1 ≤ e.level ∧ e.level ≤ 2 := by
  unfold Ent.ok at h
  rw [hk] at h
  have h1 : fitB ⟨#[110, 108]⟩ e.flds = true := by
    simp only [Bool.and_eq_true] at h
    exact h.2
  unfold fitB at h1
  simp only [Bool.not_eq_true', List.any_eq_false] at h1
  have h2 := h1 ⟨108, e.level != 0, e.level == 1 || e.level == 2⟩ (by unfold Ent.flds; simp)
  have h3 : hasB ⟨#[110, 108]⟩ 108 = true := by decide +kernel
  unfold Fld.bad at h2
  simp only [h3] at h2
  simp at h2
  omega
theorem apply_err (c : Cfg) (ok : Bool) (kind node level : Int) (h : (applyOf c ok kind node level).2 ≠ 0) : (applyOf c ok kind node level).1 = c := by
  revert h
  unfold applyOf
  split
  · intro _; rfl
  split
  · unfold addOf
    split
    · intro _; rfl
    split
    · intro _; rfl
    · intro h; exact absurd rfl h
  split
  · unfold removeOf
    split
    · intro _; rfl
    split
    · intro _; rfl
    · intro h; exact absurd rfl h
  split
  · unfold registerOf
    split
    · intro _; rfl
    split
    · intro _; rfl
    · intro h; exact absurd rfl h
  split
  · unfold upgradeOf
    split
    · intro _; rfl
    split
    · intro _; rfl
    · intro h; exact absurd rfl h
  split
  · unfold lowerOf
    split
    · intro _; rfl
    split
    · intro _; rfl
    · intro h; exact absurd rfl h
  split
  · unfold finaliseOf
    split
    · intro _; rfl
    split
    · intro _; rfl
    · intro h; exact absurd rfl h
  · intro _; rfl
/-- A config told an entry. -/
def tellC (c : Cfg) (e : Ent) : Cfg × Int := applyOf c e.ok e.kind e.node e.level
theorem tell_keeps (c : Cfg) (e : Ent) (hc : c.ok = true) : (tellC c e).1.ok = true ∧ (c.fin = true → (tellC c e).1.fin = true ∧ (tellC c e).1.lvl = 2) ∧ ((tellC c e).2 ≠ 0 → (tellC c e).1 = c) := by
  have h := apply_keeps c e.ok e.kind e.node e.level hc (fun h1 h2 => ok_node e h1 h2) (fun h1 h2 => ok_level e h1 h2)
  exact ⟨h.1, fun hf => ⟨h.2 hf, ((Cfg.ok_iff _).1 h.1).2.2.2.2.2.1 (h.2 hf)⟩, apply_err c e.ok e.kind e.node e.level⟩
theorem rightL_ge {lvl : Int} : ∀ {M G : List Int} {last : Int}, G.length = M.length → rightL M G lvl last = true → ∀ k (hk : k < G.length), lvl ≤ G[k]
  | [], [], _, _, _, k, hk => absurd hk (Nat.not_lt_zero _)
  | m :: M, g :: G, last, h, hr, k, hk => by
    rw [rightL_cons] at hr
    cases k with
    | zero => exact hr.1.2.2.1
    | succ k => exact rightL_ge (by simpa using h) hr.2 k (by simpa using hk)
theorem ok_ge (c : Cfg) (hc : c.ok = true) (k : Nat) (hk : k < c.G.length) : c.lvl ≤ c.G[k] := by
  obtain ⟨h1, h2, h3, h4, h5, h6, h7⟩ := (Cfg.ok_iff c).1 hc
  exact rightL_ge h3 h7 k hk
end Go.Proofs.YtnnpjjehecbljaaDoor
