/-
  What each kind is told: in plain Lean.
-/
import Derived.Test.YtnnpjjehecbljaaDoorLKeep
namespace Go.Proofs.YtnnpjjehecbljaaDoor
open Go.RowKit

/-- The law's config: of members; upgraded, or final, or neither. -/
def baseC (M : List Int) (up fin : Bool) : Cfg := if up = true then ⟨M, List.replicate M.length 2, 2, fin⟩ else ⟨M, List.replicate M.length 1, 1, false⟩
/-- The law's want. -/
def wantOf (M : List Int) (up fin : Bool) (kind node level : Int) : Int :=
  if kind = 5 then (if M.contains node = true then 10 else if up = true then 8 else 0)
  else if kind = 6 then (if M.contains node = false then 6 else if M.length = 1 then 10 else 0)
  else if kind = 7 then (if M.contains node = false then 6 else if up = true ∧ level = 1 then 8 else 0)
  else if kind = 8 then (if up = true then 10 else 8)
  else if kind = 9 then (if up = false then 10 else if fin = true then 8 else 0)
  else if kind = 10 then (if up = false then 8 else if fin = true then 10 else 0)
  else 0
theorem rightL_base {y z lvl : Int} (h1 : lvl ≤ z) (h2 : z ≤ 2) : ∀ {M : List Int} {last : Int}, rightL M (List.replicate M.length y) 1 last = true → rightL M (List.replicate M.length z) lvl last = true
  | [], _, _ => by simp [rightL]
  | m :: M, last, h => by
    have h' : rightL (m :: M) (y :: List.replicate M.length y) 1 last = true := h
    show rightL (m :: M) (z :: List.replicate M.length z) lvl last = true
    rw [rightL_cons] at h' ⊢
    exact ⟨⟨h'.1.1, h'.1.2.1, h1, h2⟩, rightL_base h1 h2 h'.2⟩
theorem baseC_ok {M : List Int} (h : Cfg.ok ⟨M, List.replicate M.length 1, 1, false⟩ = true) (up fin : Bool) : (baseC M up fin).ok = true := by
  cases up with
  | false => exact h
  | true =>
    obtain ⟨h1, h2, h3, h4, h5, h6, h7⟩ := (Cfg.ok_iff _).1 h
    exact (Cfg.ok_iff _).2 ⟨h1, h2, by show (List.replicate M.length (2 : Int)).length = M.length; simp, (by decide : (1 : Int) ≤ 2), (by decide : (2 : Int) ≤ 2), fun _ => rfl, rightL_base (show (2 : Int) ≤ 2 from Int.le_refl 2) (Int.le_refl 2) h7⟩
theorem apply_wants {M : List Int} (h : Cfg.ok ⟨M, List.replicate M.length 1, 1, false⟩ = true) (up fin : Bool) (kind node level : Int) (hl : kind = 7 → 1 ≤ level ∧ level ≤ 2) : (applyOf (baseC M up fin) true kind node level).2 = wantOf M up fin kind node level := by
  have hok := baseC_ok h up fin
  have h1 : 1 ≤ M.length := ((Cfg.ok_iff _).1 h).1
  have hM : (baseC M up fin).M = M := by cases up <;> rfl
  have hv : (baseC M up fin).lvl = if up = true then 2 else 1 := by cases up <;> rfl
  have hf : (baseC M up fin).fin = (up && fin) := by cases up <;> rfl
  have hg : (baseC M up fin).G.contains 1 = !up := by
    cases up with
    | false =>
      show (List.replicate M.length (1 : Int)).contains 1 = true
      rw [List.contains_iff_mem]
      exact List.mem_replicate.2 ⟨by omega, rfl⟩
    | true =>
      show (List.replicate M.length (2 : Int)).contains 1 = false
      rw [Bool.eq_false_iff]
      intro hc
      rw [List.contains_iff_mem] at hc
      exact absurd (List.mem_replicate.1 hc).2 (by decide)
  unfold applyOf wantOf
  rw [if_neg (by rw [hok]; simp)]
  by_cases k5 : kind = 5
  · rw [if_pos k5, if_pos k5]
    unfold addOf
    rw [hM, hv]
    cases M.contains node <;> cases up <;> simp
  rw [if_neg k5, if_neg k5]
  by_cases k6 : kind = 6
  · rw [if_pos k6, if_pos k6]
    unfold removeOf
    rw [hM]
    cases M.contains node
    · simp
    · by_cases h8 : M.length = 1 <;> simp [h8]
  rw [if_neg k6, if_neg k6]
  by_cases k7 : kind = 7
  · rw [if_pos k7, if_pos k7]
    obtain ⟨l1, l2⟩ := hl k7
    unfold registerOf
    rw [hM, hv]
    cases M.contains node
    · simp
    · cases up
      · have : ¬ level < 1 := by omega
        simp [this]
      · by_cases h8 : level = 1
        · subst h8; simp
        · have : ¬ level < 2 := by omega
          simp [this, h8]
  rw [if_neg k7, if_neg k7]
  by_cases k8 : kind = 8
  · rw [if_pos k8, if_pos k8]
    unfold upgradeOf
    rw [hg, hv]
    cases up <;> simp
  rw [if_neg k8, if_neg k8]
  by_cases k9 : kind = 9
  · rw [if_pos k9, if_pos k9]
    unfold lowerOf
    rw [hv, hf]
    cases up <;> cases fin <;> simp
  rw [if_neg k9, if_neg k9]
  by_cases k10 : kind = 10
  · rw [if_pos k10, if_pos k10]
    unfold finaliseOf
    rw [hv, hf]
    cases up <;> cases fin <;> simp
  rw [if_neg k10, if_neg k10]
end Go.Proofs.YtnnpjjehecbljaaDoor
