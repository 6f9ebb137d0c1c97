/-
  A region that draws its order, with facts on the world that hold up to an operation of it. No statement is proved here.
-/
import Derived.OrdersHeld
import Derived.WalkKit
import Derived.Lib.Hide
namespace Go.Proofs.YtnnpjjehecbljaaDoor
open Go.RowKit

/-- A fact on the world; it is asked for until operation k has come up (none: to the end). -/
abbrev Facts := List (Option Nat × (World → Prop))
def Facts.at (S : Facts) (listed : Array Bool) (w : World) : Prop := ∀ p, p ∈ S → (∀ k, p.1 = some k → listed.getD k true = false) → p.2 w
/-- The facts that stand while none of D has come up. -/
def Facts.of (S : Facts) (D : List Nat) (w : World) : Prop := ∀ p, p ∈ S → (∀ k, p.1 = some k → k ∈ D) → p.2 w
def wpAnyL (P : Program) (md : Region.Mode) (ops : Array Oper) (Q : Exit → Act → World → Prop) (S : Facts) : Nat → Array Bool → Act → World → Prop
  | 0, listed, a, w => Region.ready md ops listed = [] ∧ Q .normal a w
  | fuel + 1, listed, a, w =>
    (Region.ready md ops listed = [] → Q .normal a w) ∧
    ∀ i, i ∈ Region.ready md ops listed → wpOp P ops Q i (fun a' w' => S.at (listed.setIfInBounds i true) w' ∧ wpAnyL P md ops Q S fuel (listed.setIfInBounds i true) a' w') a w
section
variable {P : Program} {ops : Array Oper} {Q : Exit → Act → World → Prop} {md : Region.Mode} {S : Facts}
theorem wpAny_of_L : ∀ (fuel : Nat) (listed : Array Bool) (a : Act) (w : World), wpAnyL P md ops Q S fuel listed a w → wpAny P md ops Q fuel listed a w
  | 0, _, _, _, h => h
  | fuel + 1, _, _, _, h => ⟨h.1, fun i hi => wpOp_mono (fun a' w' h' => wpAny_of_L fuel _ a' w' h'.2) (h.2 i hi)⟩
/-- Each of D waits for i, or for one of D. -/
def waitsB (md : Region.Mode) (ops : Array Oper) (i : Nat) (D : List Nat) : Bool :=
  D.all fun k => match ops[k]? with | some o => o.after.any (fun e => Region.binds md e && (e.on == i || D.contains e.on)) | none => false
theorem Facts.at_of {S : Facts} {D : List Nat} {listed : Array Bool} {w : World} (h : S.at listed w) (hD : ∀ k, k ∈ D → listed.getD k true = false) : S.of D w :=
  fun p hp hk => h p hp (fun k e => hD k (hk k e))
theorem listed_false {listed : Array Bool} {k : Nat} (h : listed.getD k true = false) : listed.getD k false = false := by
  rcases Nat.lt_or_ge k listed.size with h' | h'
  · simp [h'] at h ⊢; exact h
  · simp [Array.getElem?_eq_none h'] at h
theorem waits_ready {i j : Nat} {D : List Nat} {listed : Array Bool} (hw : waitsB md ops i D = true) (hi : listed.getD i true = false) (hD : ∀ k, k ∈ D → listed.getD k true = false) (hj : j ∈ Region.ready md ops listed) : j ∉ D := by
  intro hm
  obtain ⟨h0, o, ho, hall⟩ := mem_ready.1 hj
  unfold waitsB at hw
  rw [List.all_eq_true] at hw
  have h1 := hw j hm
  rw [ho] at h1
  obtain ⟨e, he, hb⟩ := Array.any_eq_true'.1 h1
  simp only [Bool.and_eq_true, Bool.or_eq_true, beq_iff_eq, List.contains_iff_mem] at hb
  have h2 := hall e he hb.1
  rcases hb.2 with h3 | h3
  · rw [h3, listed_false hi] at h2; cases h2
  · rw [listed_false (hD _ h3)] at h2; cases h2
theorem wpAnyL_first {i : Nat} {oi : Oper} {v : Value} {D : List Nat} (hi : ops[i]? = some oi) (hsel : ∀ (j : Nat) (o : Oper) cs b, ops[j]? = some o → o.op ≠ .select cs b)
    (hQ : ∀ c a w, Q (.panic c) (a.put oi.dst v) w → Q (.panic c) a w) (hSi : ∀ p, p ∈ S → p.1 ≠ some i) (hw : waitsB md ops i D = true) :
    ∀ (fuel : Nat) (listed : Array Bool) (a : Act) (w : World),
      (∀ j oj, ops[j]? = some oj → j ≠ i → listed.getD j true = false → (∀ e ∈ oj.after, Region.binds md e = true → e.on ≠ i) → oi.apart ops oj = true) →
      i ∈ Region.ready md ops listed → (∀ k, k ∈ D → listed.getD k true = false) → YieldsIf P ops (S.of D) oi v a → S.at listed w →
      wpAnyL P md ops Q S fuel (listed.setIfInBounds i true) (a.put oi.dst v) w → wpAnyL P md ops Q S (fuel + 1) listed a w := by
  have hmono : ∀ (listed : Array Bool) (j : Nat) (w : World), S.at listed w → S.at (listed.setIfInBounds j true) w := fun listed j w h p hp hk => h p hp (fun k e => by
    have h1 := hk k e
    by_cases hjk : j = k
    · subst hjk
      rcases Nat.lt_or_ge j listed.size with h' | h'
      · simp [h'] at h1
      · simp [Array.getElem?_eq_none h'] at h1
    · rwa [getD_set_ne true hjk] at h1)
  intro fuel
  induction fuel with
  | zero =>
    intro listed a w _ hr hDl hy hS H
    refine ⟨fun h => (by rw [h] at hr; cases hr), fun j hj => ?_⟩
    by_cases hji : j = i
    · subst hji; exact hy.wpOp hi (Facts.at_of hS hDl) ⟨hmono _ _ _ hS, H⟩
    · have := ready_mono hj hji
      rw [H.1] at this
      cases this
  | succ fuel ih =>
    intro listed a w hfree hr hDl hy hS H
    refine ⟨fun h => (by rw [h] at hr; cases hr), fun j hj => ?_⟩
    by_cases hji : j = i
    · subst hji; exact hy.wpOp hi (Facts.at_of hS hDl) ⟨hmono _ _ _ hS, H⟩
    · have h1 := H.2 j (ready_mono hj hji)
      obtain ⟨hjun, oj, hoj, hall⟩ := mem_ready.1 hj
      have hiu := (mem_ready.1 hr).1
      have hjD := waits_ready hw hiu hDl hj
      have hnot : ∀ e ∈ oj.after, Region.binds md e = true → e.on ≠ i := fun e he hb heq => by
        have h1 := hall e he hb
        rw [heq, listed_false hiu] at h1
        cases h1
      have h2 := wpOp_putIf hoj (hfree j oj hoj hji hjun hnot) (fun cs b => hsel i oi cs b hi) (fun cs b => hsel j oj cs b hoj) hQ hy h1
      have hfree' : ∀ k ok, ops[k]? = some ok → k ≠ i → (listed.setIfInBounds j true).getD k true = false →
          (∀ e ∈ ok.after, Region.binds md e = true → e.on ≠ i) → oi.apart ops ok = true := fun k ok hk hki hun hno => by
        refine hfree k ok hk hki ?_ hno
        by_cases hjk : j = k
        · subst hjk; exact hjun
        · rwa [getD_set_ne true hjk] at hun
      refine wpOp_mono (fun a' w' h3 => ?_) h2
      have hS' : S.at (listed.setIfInBounds j true) w' := fun p hp hk => h3.2.1 p hp (fun k e => by
        have hik : i ≠ k := fun hik => hSi p hp (by rw [e, hik])
        rw [Array.setIfInBounds_comm _ _ (Ne.symm hji), getD_set_ne true hik]
        exact hk k e)
      refine ⟨hS', ih (listed.setIfInBounds j true) a' w' hfree' (ready_mono hr (Ne.symm hji)) (fun k hk => ?_) h3.1 hS' ?_⟩
      · have hjk : j ≠ k := fun e => hjD (e ▸ hk)
        rw [getD_set_ne true hjk]
        exact hDl k hk
      · rw [Array.setIfInBounds_comm _ _ hji]
        exact h3.2.2
/-- Take number 'i' first. -/
theorem wpAnyL_take {i : Nat} {oi : Oper} {v : Value} {D : List Nat} {fuel : Nat} {listed : Array Bool} {a : Act} {w : World} (hc : (Region.noSelect ops && Region.free md ops listed i && (Region.ready md ops listed).contains i && waitsB md ops i D && D.all (fun k => !listed.getD k true) && S.all (fun p => p.1 != some i)) = true) (hi : ops[i]? = some oi)
    (hQ : ∀ c a w, Q (.panic c) (a.put oi.dst v) w → Q (.panic c) a w) (hy : YieldsIf P ops (S.of D) oi v a) (hS : S.at listed w)
    (h : wpAnyL P md ops Q S fuel (listed.setIfInBounds i true) (a.put oi.dst v) w) : wpAnyL P md ops Q S (fuel + 1) listed a w := by
  simp only [Bool.and_eq_true, List.all_eq_true, Bool.not_eq_true', bne_iff_ne] at hc
  obtain ⟨⟨⟨⟨⟨h1, h2⟩, h3⟩, h4⟩, h5⟩, h6⟩ := hc
  exact wpAnyL_first hi (Region.noSelect_spec h1) hQ h6 h4 fuel listed a w (Region.free_spec hi h2) (by simpa using h3) h5 hy hS h
theorem wpAnyL_done {listed : Array Bool} {a : Act} {w : World} (hr : Region.ready md ops listed = []) (h : Q .normal a w) : ∀ fuel, wpAnyL P md ops Q S fuel listed a w
  | 0 => ⟨hr, h⟩
  | _ + 1 => ⟨fun _ => h, by rw [hr]; simp⟩
/-- Each of those that may come up. -/
def AllL (P : Program) (md : Region.Mode) (ops : Array Oper) (Q : Exit → Act → World → Prop) (S : Facts) (fuel : Nat) (listed : Array Bool) (a : Act) (w : World) : List Nat → Prop
  | [] => True
  | i :: rs => wpOp P ops Q i (fun a' w' => S.at (listed.setIfInBounds i true) w' ∧ wpAnyL P md ops Q S fuel (listed.setIfInBounds i true) a' w') a w ∧ AllL P md ops Q S fuel listed a w rs
theorem wpAnyL_ready {rs : List Nat} {fuel : Nat} {listed : Array Bool} {a : Act} {w : World} (hr : Region.ready md ops listed = rs) (hne : rs ≠ []) (h : AllL P md ops Q S fuel listed a w rs) : wpAnyL P md ops Q S (fuel + 1) listed a w := by
  refine ⟨fun h0 => absurd (hr ▸ h0) hne, fun i hi => ?_⟩
  rw [hr] at hi
  clear hr hne
  induction rs with
  | nil => cases hi
  | cons j rs ih =>
    rcases List.mem_cons.1 hi with rfl | hi
    · exact h.1
    · exact ih h.2 hi
theorem AllL.cons {i : Nat} {o : Oper} {rs : List Nat} {fuel : Nat} {listed : Array Bool} {a : Act} {w : World} (ho : ops[i]? = some o)
    (h : ∀ K : Act → World → Prop, Hid (∀ a' w', S.at (listed.setIfInBounds i true) w' → wpAnyL P md ops Q S fuel (listed.setIfInBounds i true) a' w' → K a' w') → if Region.wanted o (yielded ops a.tmps) = true then o.wp P a w K Q else K (a.put o.dst undef) w)
    (hs : AllL P md ops Q S fuel listed a w rs) : AllL P md ops Q S fuel listed a w (i :: rs) := by
  refine ⟨?_, hs⟩
  have := h (fun a' w' => S.at (listed.setIfInBounds i true) w' ∧ wpAnyL P md ops Q S fuel (listed.setIfInBounds i true) a' w') (Lib.hid (fun a' w' h1 h2 => ⟨h1, h2⟩))
  unfold wpOp
  simp only [ho]
  split
  · rename_i hw; rw [if_pos hw] at this; exact .inl this
  · rename_i hw; rw [if_neg hw] at this; exact this
theorem AllL.nil {fuel : Nat} {listed : Array Bool} {a : Act} {w : World} : AllL P md ops Q S fuel listed a w [] := trivial
theorem wp_region_L (S : Facts) {id : Nat} {a : Act} {w : World} (hm : P.follows .mixedOrders = true)
    (h : wpAnyL P .any ops Q S ops.size (Array.replicate ops.size false) a w.drew) : (Code.region id ops true).wp P Q a w :=
  wp_region_any hm (wpAny_of_L _ _ _ _ h)

/-! ### the steps of a script -/
def GoL (P : Program) (ops : Array Oper) (Q : Exit → Act → World → Prop) (S : Facts) (fuel : Nat) (listed : Array Bool) (a : Act) (w : World) : Prop := S.at listed w → wpAnyL P .any ops Q S fuel listed a w
theorem GoL.begin (S : Facts) {id : Nat} {a : Act} {w : World} (hm : P.follows .mixedOrders = true) (hS : S.at (Array.replicate ops.size false) w.drew)
    (h : GoL P ops Q S ops.size (Array.replicate ops.size false) a w.drew) : (Code.region id ops true).wp P Q a w := wp_region_L S hm (h hS)
theorem Facts.at_mono {S : Facts} {listed : Array Bool} {j : Nat} {w : World} (h : S.at listed w) : S.at (listed.setIfInBounds j true) w := fun p hp hk => h p hp (fun k e => by
    have h1 := hk k e
    by_cases hjk : j = k
    · subst hjk
      rcases Nat.lt_or_ge j listed.size with h' | h'
      · simp [h'] at h1
      · simp [Array.getElem?_eq_none h'] at h1
    · rwa [getD_set_ne true hjk] at h1)
theorem GoL.take {S : Facts} (i : Nat) (D : List Nat) {oi : Oper} {v : Value} {fuel : Nat} {listed : Array Bool} {a : Act} {w : World} (hc : (Region.noSelect ops && Region.free .any ops listed i && (Region.ready .any ops listed).contains i && waitsB .any ops i D && D.all (fun k => !listed.getD k true) && S.all (fun p => p.1 != some i)) = true) (hi : ops[i]? = some oi)
    (hQ : ∀ c a w, Q (.panic c) (a.put oi.dst v) w → Q (.panic c) a w) (hy : YieldsIf P ops (S.of D) oi v a)
    (h : GoL P ops Q S fuel (listed.setIfInBounds i true) (a.put oi.dst v) w) : GoL P ops Q S (fuel + 1) listed a w :=
  fun hS => wpAnyL_take hc hi hQ hy hS (h (Facts.at_mono hS))
theorem GoL.ready {S : Facts} (rs : List Nat) {fuel : Nat} {listed : Array Bool} {a : Act} {w : World} (hr : Region.ready .any ops listed = rs) (hne : rs ≠ []) (h : AllL P .any ops Q S fuel listed a w rs) : GoL P ops Q S (fuel + 1) listed a w :=
  fun _ => wpAnyL_ready hr hne h
theorem GoL.one {S : Facts} {i : Nat} {o : Oper} {rs : List Nat} {fuel : Nat} {listed : Array Bool} {a : Act} {w : World} (ho : ops[i]? = some o)
    (h : ∀ K : Act → World → Prop, Hid (∀ a' w', S.at (listed.setIfInBounds i true) w' → GoL P ops Q S fuel (listed.setIfInBounds i true) a' w' → K a' w') → if Region.wanted o (yielded ops a.tmps) = true then o.wp P a w K Q else K (a.put o.dst undef) w)
    (hs : AllL P .any ops Q S fuel listed a w rs) : AllL P .any ops Q S fuel listed a w (i :: rs) :=
  AllL.cons ho (fun K hK => h K (Lib.hid (fun a' w' h1 h2 => hK.out a' w' h1 (h2 h1)))) hs
theorem GoL.done {S : Facts} {listed : Array Bool} {a : Act} {w : World} {fuel : Nat} (hr : Region.ready .any ops listed = []) (h : Q .normal a w) : GoL P ops Q S fuel listed a w := fun _ => wpAnyL_done hr h _
def inD (D : List Nat) : Option Nat → Bool
  | some k => D.contains k
  | none => true
theorem Facts.get {S : Facts} {D : List Nat} {w : World} (h : S.of D w) (n : Nat) {k : Option Nat} {f : World → Prop} (hn : S[n]? = some (k, f)) (hk : inD D k = true) : f w :=
  h _ (List.mem_of_getElem? hn) (fun k' e => by
    simp only at e
    subst e
    simpa [inD] using hk)
def gone (listed : Array Bool) : Option Nat → Bool
  | some k => listed.getD k true
  | none => false
theorem Facts.nil_at {listed : Array Bool} {w : World} : Facts.at [] listed w := fun p hp => by cases hp
theorem Facts.cons_at {k : Option Nat} {f : World → Prop} {S : Facts} {listed : Array Bool} {w : World} (h : gone listed k = true ∨ f w) (hs : S.at listed w) : Facts.at ((k, f) :: S) listed w := fun p hp hk => by
  rcases List.mem_cons.1 hp with rfl | hp
  · rcases h with h | h
    · cases k with
      | none => cases h
      | some k =>
        have h1 : listed.getD k true = true := h
        rw [hk k rfl] at h1
        cases h1
    · exact h
  · exact hs p hp hk
end
end Go.Proofs.YtnnpjjehecbljaaDoor
