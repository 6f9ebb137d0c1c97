/-
  Texts of this seat, joined: GMade.
-/
import Derived.Test.YthfaaoeecajkeaaDoorW34
import Derived.Test.YthfaaoeecajkeaaDoorW14
import Derived.IntWalk
set_option linter.unusedSimpArgs false
set_option linter.unusedVariables false
namespace Go.Proofs.YthfaaoeecajkeaaDoor
open Go.RowKit

theorem nodeW_ok (x : Int) : 1 ≤ nodeW x ∧ nodeW x ≤ 7 := by
  unfold nodeW
  have h0 : 0 ≤ IntKind.u64.wrap x ∧ IntKind.u64.wrap x < 18446744073709551616 := by rw [IntKind.wrap_u64]; omega
  have h1 := Int.tmod_eq_emod_of_nonneg (b := 7) h0.1
  have h2 := Int.emod_nonneg (IntKind.u64.wrap x) (b := 7) (by decide)
  have h3 := Int.emod_lt_of_pos (IntKind.u64.wrap x) (b := 7) (by decide)
  rw [IntWalk.wrap64_in ((IntKind.u64.wrap x).tmod 7) (by omega), IntWalk.wrap64_in _ (by omega)]
  omega
theorem levelW_ok (x : Int) : levelW x = 1 ∨ levelW x = 2 := by
  unfold levelW
  have h0 : 0 ≤ IntKind.u64.wrap x ∧ IntKind.u64.wrap x < 18446744073709551616 := by rw [IntKind.wrap_u64]; omega
  have h1 := Int.tmod_eq_emod_of_nonneg (b := 2) h0.1
  have h2 := Int.emod_nonneg (IntKind.u64.wrap x) (b := 2) (by decide)
  have h3 := Int.emod_lt_of_pos (IntKind.u64.wrap x) (b := 2) (by decide)
  rw [IntWalk.wrap64_in ((IntKind.u64.wrap x).tmod 2) (by omega), IntWalk.wrap64_in _ (by omega)]
  omega
theorem cutTo_le (n : Nat) (s : ByteArray) : (cutTo n s).size ≤ n := by
  unfold cutTo
  rw [ByteArray.size_extract]
  omega
theorem nodeW_B (x : Int) : nodeB (nodeW x) = true := by
  have := nodeW_ok x
  unfold nodeB
  simp [this]
theorem levelW_B (x : Int) : (levelW x == 1 || levelW x == 2) = true := by
  rcases levelW_ok x with h | h <;> rw [h] <;> rfl
theorem mod_small (x k : Int) (h : 0 < k) (h2 : k < 1000) : smallB (x % k) = true := by
  have h0 := Int.emod_nonneg x (b := k) (by omega)
  have h1 := Int.emod_lt_of_pos x h
  unfold smallB
  have : x % k / 4294967296 = 0 := by omega
  rw [this]; rfl
theorem mod_pos1 (x k : Int) (h : 0 < k) : decide (0 < x % k + 1) = true := by
  have h0 := Int.emod_nonneg x (b := k) (by omega)
  exact decide_eq_true (by omega)
theorem noB (b : Bool) : (!(!b)) = b := by cases b <;> rfl

theorem made_ok0 (e : Ent) (hk : e.kind % 12 = 0) : (madeOf e).ok = true := by
  have hm : entMay (e.kind % 12) = (⟨#[]⟩, true) := by rw [hk]; rfl
  have hm1 : (entMay (e.kind % 12)).1 = ⟨#[]⟩ := by rw [hm]
  unfold Ent.ok Ent.flds madeOf
  simp only [hm]
  unfold has' fitB
  simp only [List.any_cons, List.any_nil, Fld.bad, show hasI ⟨#[]⟩ 99 = false from by decide, show hasI ⟨#[]⟩ 98 = false from by decide, show hasI ⟨#[]⟩ 109 = false from by decide, show hasI ⟨#[]⟩ 110 = false from by decide, show hasI ⟨#[]⟩ 108 = false from by decide, show hasI ⟨#[]⟩ 100 = false from by decide, show hasI ⟨#[]⟩ 111 = false from by decide, show hasB ⟨#[]⟩ 99 = false from by decide, show hasB ⟨#[]⟩ 98 = false from by decide, show hasB ⟨#[]⟩ 109 = false from by decide, show hasB ⟨#[]⟩ 110 = false from by decide, show hasB ⟨#[]⟩ 108 = false from by decide, show hasB ⟨#[]⟩ 100 = false from by decide, show hasB ⟨#[]⟩ 111 = false from by decide]
  have h1 := mod_pos1 e.term 1000 (by decide)
  have h2 := mod_pos1 e.index 1000 (by decide)
  have h3 := mod_pos1 e.client 5 (by decide)
  have h4 := mod_small e.block 9 (by decide) (by decide)
  have h5 := mod_small e.many 9 (by decide) (by decide)
  have h6 := nodeW_B e.node
  have h7 := levelW_B e.level
  have h8 : decide (((cutTo 64 e.data).size : Int) ≤ 64) = true := decide_eq_true (by have := cutTo_le 64 e.data; omega)
  have h9 : decide (((cutTo 64 e.old).size : Int) ≤ 64) = true := decide_eq_true (by have := cutTo_le 64 e.old; omega)
  simp [h1, h2, h3, h4, h5, h6, h7, h8, h9]
  try exact (by decide)

theorem made_ok1 (e : Ent) (hk : e.kind % 12 = 1) : (madeOf e).ok = true := by
  have hm : entMay (e.kind % 12) = (⟨#[99, 98, 100]⟩, true) := by rw [hk]; rfl
  have hm1 : (entMay (e.kind % 12)).1 = ⟨#[99, 98, 100]⟩ := by rw [hm]
  unfold Ent.ok Ent.flds madeOf
  simp only [hm]
  unfold has' fitB
  simp only [List.any_cons, List.any_nil, Fld.bad, show hasI ⟨#[99, 98, 100]⟩ 99 = true from by decide, show hasI ⟨#[99, 98, 100]⟩ 98 = true from by decide, show hasI ⟨#[99, 98, 100]⟩ 109 = false from by decide, show hasI ⟨#[99, 98, 100]⟩ 110 = false from by decide, show hasI ⟨#[99, 98, 100]⟩ 108 = false from by decide, show hasI ⟨#[99, 98, 100]⟩ 100 = true from by decide, show hasI ⟨#[99, 98, 100]⟩ 111 = false from by decide, show hasB ⟨#[99, 98, 100]⟩ 99 = true from by decide, show hasB ⟨#[99, 98, 100]⟩ 98 = true from by decide, show hasB ⟨#[99, 98, 100]⟩ 109 = false from by decide, show hasB ⟨#[99, 98, 100]⟩ 110 = false from by decide, show hasB ⟨#[99, 98, 100]⟩ 108 = false from by decide, show hasB ⟨#[99, 98, 100]⟩ 100 = true from by decide, show hasB ⟨#[99, 98, 100]⟩ 111 = false from by decide]
  have h1 := mod_pos1 e.term 1000 (by decide)
  have h2 := mod_pos1 e.index 1000 (by decide)
  have h3 := mod_pos1 e.client 5 (by decide)
  have h4 := mod_small e.block 9 (by decide) (by decide)
  have h5 := mod_small e.many 9 (by decide) (by decide)
  have h6 := nodeW_B e.node
  have h7 := levelW_B e.level
  have h8 : decide (((cutTo 64 e.data).size : Int) ≤ 64) = true := decide_eq_true (by have := cutTo_le 64 e.data; omega)
  have h9 : decide (((cutTo 64 e.old).size : Int) ≤ 64) = true := decide_eq_true (by have := cutTo_le 64 e.old; omega)
  simp [h1, h2, h3, h4, h5, h6, h7, h8, h9]
  try exact (by decide)

theorem made_ok2 (e : Ent) (hk : e.kind % 12 = 2) : (madeOf e).ok = true := by
  have hm : entMay (e.kind % 12) = (⟨#[99, 98, 109]⟩, true) := by rw [hk]; rfl
  have hm1 : (entMay (e.kind % 12)).1 = ⟨#[99, 98, 109]⟩ := by rw [hm]
  unfold Ent.ok Ent.flds madeOf
  simp only [hm]
  unfold has' fitB
  simp only [List.any_cons, List.any_nil, Fld.bad, show hasI ⟨#[99, 98, 109]⟩ 99 = true from by decide, show hasI ⟨#[99, 98, 109]⟩ 98 = true from by decide, show hasI ⟨#[99, 98, 109]⟩ 109 = true from by decide, show hasI ⟨#[99, 98, 109]⟩ 110 = false from by decide, show hasI ⟨#[99, 98, 109]⟩ 108 = false from by decide, show hasI ⟨#[99, 98, 109]⟩ 100 = false from by decide, show hasI ⟨#[99, 98, 109]⟩ 111 = false from by decide, show hasB ⟨#[99, 98, 109]⟩ 99 = true from by decide, show hasB ⟨#[99, 98, 109]⟩ 98 = true from by decide, show hasB ⟨#[99, 98, 109]⟩ 109 = true from by decide, show hasB ⟨#[99, 98, 109]⟩ 110 = false from by decide, show hasB ⟨#[99, 98, 109]⟩ 108 = false from by decide, show hasB ⟨#[99, 98, 109]⟩ 100 = false from by decide, show hasB ⟨#[99, 98, 109]⟩ 111 = false from by decide]
  have h1 := mod_pos1 e.term 1000 (by decide)
  have h2 := mod_pos1 e.index 1000 (by decide)
  have h3 := mod_pos1 e.client 5 (by decide)
  have h4 := mod_small e.block 9 (by decide) (by decide)
  have h5 := mod_small e.many 9 (by decide) (by decide)
  have h6 := nodeW_B e.node
  have h7 := levelW_B e.level
  have h8 : decide (((cutTo 64 e.data).size : Int) ≤ 64) = true := decide_eq_true (by have := cutTo_le 64 e.data; omega)
  have h9 : decide (((cutTo 64 e.old).size : Int) ≤ 64) = true := decide_eq_true (by have := cutTo_le 64 e.old; omega)
  simp [h1, h2, h3, h4, h5, h6, h7, h8, h9]
  try exact (by decide)

theorem made_ok3 (e : Ent) (hk : e.kind % 12 = 3) : (madeOf e).ok = true := by
  have hm : entMay (e.kind % 12) = (⟨#[99, 109]⟩, true) := by rw [hk]; rfl
  have hm1 : (entMay (e.kind % 12)).1 = ⟨#[99, 109]⟩ := by rw [hm]
  unfold Ent.ok Ent.flds madeOf
  simp only [hm]
  unfold has' fitB
  simp only [List.any_cons, List.any_nil, Fld.bad, show hasI ⟨#[99, 109]⟩ 99 = true from by decide, show hasI ⟨#[99, 109]⟩ 98 = false from by decide, show hasI ⟨#[99, 109]⟩ 109 = true from by decide, show hasI ⟨#[99, 109]⟩ 110 = false from by decide, show hasI ⟨#[99, 109]⟩ 108 = false from by decide, show hasI ⟨#[99, 109]⟩ 100 = false from by decide, show hasI ⟨#[99, 109]⟩ 111 = false from by decide, show hasB ⟨#[99, 109]⟩ 99 = true from by decide, show hasB ⟨#[99, 109]⟩ 98 = false from by decide, show hasB ⟨#[99, 109]⟩ 109 = true from by decide, show hasB ⟨#[99, 109]⟩ 110 = false from by decide, show hasB ⟨#[99, 109]⟩ 108 = false from by decide, show hasB ⟨#[99, 109]⟩ 100 = false from by decide, show hasB ⟨#[99, 109]⟩ 111 = false from by decide]
  have h1 := mod_pos1 e.term 1000 (by decide)
  have h2 := mod_pos1 e.index 1000 (by decide)
  have h3 := mod_pos1 e.client 5 (by decide)
  have h4 := mod_small e.block 9 (by decide) (by decide)
  have h5 := mod_small e.many 9 (by decide) (by decide)
  have h6 := nodeW_B e.node
  have h7 := levelW_B e.level
  have h8 : decide (((cutTo 64 e.data).size : Int) ≤ 64) = true := decide_eq_true (by have := cutTo_le 64 e.data; omega)
  have h9 : decide (((cutTo 64 e.old).size : Int) ≤ 64) = true := decide_eq_true (by have := cutTo_le 64 e.old; omega)
  simp [h1, h2, h3, h4, h5, h6, h7, h8, h9]
  try exact (by decide)

theorem made_ok4 (e : Ent) (hk : e.kind % 12 = 4) : (madeOf e).ok = true := by
  have hm : entMay (e.kind % 12) = (⟨#[99]⟩, true) := by rw [hk]; rfl
  have hm1 : (entMay (e.kind % 12)).1 = ⟨#[99]⟩ := by rw [hm]
  unfold Ent.ok Ent.flds madeOf
  simp only [hm]
  unfold has' fitB
  simp only [List.any_cons, List.any_nil, Fld.bad, show hasI ⟨#[99]⟩ 99 = true from by decide, show hasI ⟨#[99]⟩ 98 = false from by decide, show hasI ⟨#[99]⟩ 109 = false from by decide, show hasI ⟨#[99]⟩ 110 = false from by decide, show hasI ⟨#[99]⟩ 108 = false from by decide, show hasI ⟨#[99]⟩ 100 = false from by decide, show hasI ⟨#[99]⟩ 111 = false from by decide, show hasB ⟨#[99]⟩ 99 = true from by decide, show hasB ⟨#[99]⟩ 98 = false from by decide, show hasB ⟨#[99]⟩ 109 = false from by decide, show hasB ⟨#[99]⟩ 110 = false from by decide, show hasB ⟨#[99]⟩ 108 = false from by decide, show hasB ⟨#[99]⟩ 100 = false from by decide, show hasB ⟨#[99]⟩ 111 = false from by decide]
  have h1 := mod_pos1 e.term 1000 (by decide)
  have h2 := mod_pos1 e.index 1000 (by decide)
  have h3 := mod_pos1 e.client 5 (by decide)
  have h4 := mod_small e.block 9 (by decide) (by decide)
  have h5 := mod_small e.many 9 (by decide) (by decide)
  have h6 := nodeW_B e.node
  have h7 := levelW_B e.level
  have h8 : decide (((cutTo 64 e.data).size : Int) ≤ 64) = true := decide_eq_true (by have := cutTo_le 64 e.data; omega)
  have h9 : decide (((cutTo 64 e.old).size : Int) ≤ 64) = true := decide_eq_true (by have := cutTo_le 64 e.old; omega)
  simp [h1, h2, h3, h4, h5, h6, h7, h8, h9]
  try exact (by decide)

theorem made_ok5 (e : Ent) (hk : e.kind % 12 = 5) : (madeOf e).ok = true := by
  have hm : entMay (e.kind % 12) = (⟨#[110]⟩, true) := by rw [hk]; rfl
  have hm1 : (entMay (e.kind % 12)).1 = ⟨#[110]⟩ := by rw [hm]
  unfold Ent.ok Ent.flds madeOf
  simp only [hm]
  unfold has' fitB
  simp only [List.any_cons, List.any_nil, Fld.bad, show hasI ⟨#[110]⟩ 99 = false from by decide, show hasI ⟨#[110]⟩ 98 = false from by decide, show hasI ⟨#[110]⟩ 109 = false from by decide, show hasI ⟨#[110]⟩ 110 = true from by decide, show hasI ⟨#[110]⟩ 108 = false from by decide, show hasI ⟨#[110]⟩ 100 = false from by decide, show hasI ⟨#[110]⟩ 111 = false from by decide, show hasB ⟨#[110]⟩ 99 = false from by decide, show hasB ⟨#[110]⟩ 98 = false from by decide, show hasB ⟨#[110]⟩ 109 = false from by decide, show hasB ⟨#[110]⟩ 110 = true from by decide, show hasB ⟨#[110]⟩ 108 = false from by decide, show hasB ⟨#[110]⟩ 100 = false from by decide, show hasB ⟨#[110]⟩ 111 = false from by decide]
  have h1 := mod_pos1 e.term 1000 (by decide)
  have h2 := mod_pos1 e.index 1000 (by decide)
  have h3 := mod_pos1 e.client 5 (by decide)
  have h4 := mod_small e.block 9 (by decide) (by decide)
  have h5 := mod_small e.many 9 (by decide) (by decide)
  have h6 := nodeW_B e.node
  have h7 := levelW_B e.level
  have h8 : decide (((cutTo 64 e.data).size : Int) ≤ 64) = true := decide_eq_true (by have := cutTo_le 64 e.data; omega)
  have h9 : decide (((cutTo 64 e.old).size : Int) ≤ 64) = true := decide_eq_true (by have := cutTo_le 64 e.old; omega)
  simp [h1, h2, h3, h4, h5, h6, h7, h8, h9]
  try exact (by decide)

theorem made_ok6 (e : Ent) (hk : e.kind % 12 = 6) : (madeOf e).ok = true := by
  have hm : entMay (e.kind % 12) = (⟨#[110]⟩, true) := by rw [hk]; rfl
  have hm1 : (entMay (e.kind % 12)).1 = ⟨#[110]⟩ := by rw [hm]
  unfold Ent.ok Ent.flds madeOf
  simp only [hm]
  unfold has' fitB
  simp only [List.any_cons, List.any_nil, Fld.bad, show hasI ⟨#[110]⟩ 99 = false from by decide, show hasI ⟨#[110]⟩ 98 = false from by decide, show hasI ⟨#[110]⟩ 109 = false from by decide, show hasI ⟨#[110]⟩ 110 = true from by decide, show hasI ⟨#[110]⟩ 108 = false from by decide, show hasI ⟨#[110]⟩ 100 = false from by decide, show hasI ⟨#[110]⟩ 111 = false from by decide, show hasB ⟨#[110]⟩ 99 = false from by decide, show hasB ⟨#[110]⟩ 98 = false from by decide, show hasB ⟨#[110]⟩ 109 = false from by decide, show hasB ⟨#[110]⟩ 110 = true from by decide, show hasB ⟨#[110]⟩ 108 = false from by decide, show hasB ⟨#[110]⟩ 100 = false from by decide, show hasB ⟨#[110]⟩ 111 = false from by decide]
  have h1 := mod_pos1 e.term 1000 (by decide)
  have h2 := mod_pos1 e.index 1000 (by decide)
  have h3 := mod_pos1 e.client 5 (by decide)
  have h4 := mod_small e.block 9 (by decide) (by decide)
  have h5 := mod_small e.many 9 (by decide) (by decide)
  have h6 := nodeW_B e.node
  have h7 := levelW_B e.level
  have h8 : decide (((cutTo 64 e.data).size : Int) ≤ 64) = true := decide_eq_true (by have := cutTo_le 64 e.data; omega)
  have h9 : decide (((cutTo 64 e.old).size : Int) ≤ 64) = true := decide_eq_true (by have := cutTo_le 64 e.old; omega)
  simp [h1, h2, h3, h4, h5, h6, h7, h8, h9]
  try exact (by decide)

theorem made_ok7 (e : Ent) (hk : e.kind % 12 = 7) : (madeOf e).ok = true := by
  have hm : entMay (e.kind % 12) = (⟨#[110, 108]⟩, true) := by rw [hk]; rfl
  have hm1 : (entMay (e.kind % 12)).1 = ⟨#[110, 108]⟩ := by rw [hm]
  unfold Ent.ok Ent.flds madeOf
  simp only [hm]
  unfold has' fitB
  simp only [List.any_cons, List.any_nil, Fld.bad, show hasI ⟨#[110, 108]⟩ 99 = false from by decide, show hasI ⟨#[110, 108]⟩ 98 = false from by decide, show hasI ⟨#[110, 108]⟩ 109 = false from by decide, show hasI ⟨#[110, 108]⟩ 110 = true from by decide, show hasI ⟨#[110, 108]⟩ 108 = true from by decide, show hasI ⟨#[110, 108]⟩ 100 = false from by decide, show hasI ⟨#[110, 108]⟩ 111 = false from by decide, show hasB ⟨#[110, 108]⟩ 99 = false from by decide, show hasB ⟨#[110, 108]⟩ 98 = false from by decide, show hasB ⟨#[110, 108]⟩ 109 = false from by decide, show hasB ⟨#[110, 108]⟩ 110 = true from by decide, show hasB ⟨#[110, 108]⟩ 108 = true from by decide, show hasB ⟨#[110, 108]⟩ 100 = false from by decide, show hasB ⟨#[110, 108]⟩ 111 = false from by decide]
  have h1 := mod_pos1 e.term 1000 (by decide)
  have h2 := mod_pos1 e.index 1000 (by decide)
  have h3 := mod_pos1 e.client 5 (by decide)
  have h4 := mod_small e.block 9 (by decide) (by decide)
  have h5 := mod_small e.many 9 (by decide) (by decide)
  have h6 := nodeW_B e.node
  have h7 := levelW_B e.level
  have h8 : decide (((cutTo 64 e.data).size : Int) ≤ 64) = true := decide_eq_true (by have := cutTo_le 64 e.data; omega)
  have h9 : decide (((cutTo 64 e.old).size : Int) ≤ 64) = true := decide_eq_true (by have := cutTo_le 64 e.old; omega)
  simp [h1, h2, h3, h4, h5, h6, h7, h8, h9]
  try exact (by decide)

theorem made_ok8 (e : Ent) (hk : e.kind % 12 = 8) : (madeOf e).ok = true := by
  have hm : entMay (e.kind % 12) = (⟨#[]⟩, true) := by rw [hk]; rfl
  have hm1 : (entMay (e.kind % 12)).1 = ⟨#[]⟩ := by rw [hm]
  unfold Ent.ok Ent.flds madeOf
  simp only [hm]
  unfold has' fitB
  simp only [List.any_cons, List.any_nil, Fld.bad, show hasI ⟨#[]⟩ 99 = false from by decide, show hasI ⟨#[]⟩ 98 = false from by decide, show hasI ⟨#[]⟩ 109 = false from by decide, show hasI ⟨#[]⟩ 110 = false from by decide, show hasI ⟨#[]⟩ 108 = false from by decide, show hasI ⟨#[]⟩ 100 = false from by decide, show hasI ⟨#[]⟩ 111 = false from by decide, show hasB ⟨#[]⟩ 99 = false from by decide, show hasB ⟨#[]⟩ 98 = false from by decide, show hasB ⟨#[]⟩ 109 = false from by decide, show hasB ⟨#[]⟩ 110 = false from by decide, show hasB ⟨#[]⟩ 108 = false from by decide, show hasB ⟨#[]⟩ 100 = false from by decide, show hasB ⟨#[]⟩ 111 = false from by decide]
  have h1 := mod_pos1 e.term 1000 (by decide)
  have h2 := mod_pos1 e.index 1000 (by decide)
  have h3 := mod_pos1 e.client 5 (by decide)
  have h4 := mod_small e.block 9 (by decide) (by decide)
  have h5 := mod_small e.many 9 (by decide) (by decide)
  have h6 := nodeW_B e.node
  have h7 := levelW_B e.level
  have h8 : decide (((cutTo 64 e.data).size : Int) ≤ 64) = true := decide_eq_true (by have := cutTo_le 64 e.data; omega)
  have h9 : decide (((cutTo 64 e.old).size : Int) ≤ 64) = true := decide_eq_true (by have := cutTo_le 64 e.old; omega)
  simp [h1, h2, h3, h4, h5, h6, h7, h8, h9]
  try exact (by decide)

theorem made_ok9 (e : Ent) (hk : e.kind % 12 = 9) : (madeOf e).ok = true := by
  have hm : entMay (e.kind % 12) = (⟨#[]⟩, true) := by rw [hk]; rfl
  have hm1 : (entMay (e.kind % 12)).1 = ⟨#[]⟩ := by rw [hm]
  unfold Ent.ok Ent.flds madeOf
  simp only [hm]
  unfold has' fitB
  simp only [List.any_cons, List.any_nil, Fld.bad, show hasI ⟨#[]⟩ 99 = false from by decide, show hasI ⟨#[]⟩ 98 = false from by decide, show hasI ⟨#[]⟩ 109 = false from by decide, show hasI ⟨#[]⟩ 110 = false from by decide, show hasI ⟨#[]⟩ 108 = false from by decide, show hasI ⟨#[]⟩ 100 = false from by decide, show hasI ⟨#[]⟩ 111 = false from by decide, show hasB ⟨#[]⟩ 99 = false from by decide, show hasB ⟨#[]⟩ 98 = false from by decide, show hasB ⟨#[]⟩ 109 = false from by decide, show hasB ⟨#[]⟩ 110 = false from by decide, show hasB ⟨#[]⟩ 108 = false from by decide, show hasB ⟨#[]⟩ 100 = false from by decide, show hasB ⟨#[]⟩ 111 = false from by decide]
  have h1 := mod_pos1 e.term 1000 (by decide)
  have h2 := mod_pos1 e.index 1000 (by decide)
  have h3 := mod_pos1 e.client 5 (by decide)
  have h4 := mod_small e.block 9 (by decide) (by decide)
  have h5 := mod_small e.many 9 (by decide) (by decide)
  have h6 := nodeW_B e.node
  have h7 := levelW_B e.level
  have h8 : decide (((cutTo 64 e.data).size : Int) ≤ 64) = true := decide_eq_true (by have := cutTo_le 64 e.data; omega)
  have h9 : decide (((cutTo 64 e.old).size : Int) ≤ 64) = true := decide_eq_true (by have := cutTo_le 64 e.old; omega)
  simp [h1, h2, h3, h4, h5, h6, h7, h8, h9]
  try exact (by decide)

theorem made_ok10 (e : Ent) (hk : e.kind % 12 = 10) : (madeOf e).ok = true := by
  have hm : entMay (e.kind % 12) = (⟨#[]⟩, true) := by rw [hk]; rfl
  have hm1 : (entMay (e.kind % 12)).1 = ⟨#[]⟩ := by rw [hm]
  unfold Ent.ok Ent.flds madeOf
  simp only [hm]
  unfold has' fitB
  simp only [List.any_cons, List.any_nil, Fld.bad, show hasI ⟨#[]⟩ 99 = false from by decide, show hasI ⟨#[]⟩ 98 = false from by decide, show hasI ⟨#[]⟩ 109 = false from by decide, show hasI ⟨#[]⟩ 110 = false from by decide, show hasI ⟨#[]⟩ 108 = false from by decide, show hasI ⟨#[]⟩ 100 = false from by decide, show hasI ⟨#[]⟩ 111 = false from by decide, show hasB ⟨#[]⟩ 99 = false from by decide, show hasB ⟨#[]⟩ 98 = false from by decide, show hasB ⟨#[]⟩ 109 = false from by decide, show hasB ⟨#[]⟩ 110 = false from by decide, show hasB ⟨#[]⟩ 108 = false from by decide, show hasB ⟨#[]⟩ 100 = false from by decide, show hasB ⟨#[]⟩ 111 = false from by decide]
  have h1 := mod_pos1 e.term 1000 (by decide)
  have h2 := mod_pos1 e.index 1000 (by decide)
  have h3 := mod_pos1 e.client 5 (by decide)
  have h4 := mod_small e.block 9 (by decide) (by decide)
  have h5 := mod_small e.many 9 (by decide) (by decide)
  have h6 := nodeW_B e.node
  have h7 := levelW_B e.level
  have h8 : decide (((cutTo 64 e.data).size : Int) ≤ 64) = true := decide_eq_true (by have := cutTo_le 64 e.data; omega)
  have h9 : decide (((cutTo 64 e.old).size : Int) ≤ 64) = true := decide_eq_true (by have := cutTo_le 64 e.old; omega)
  simp [h1, h2, h3, h4, h5, h6, h7, h8, h9]
  try exact (by decide)

theorem made_ok11 (e : Ent) (hk : e.kind % 12 = 11) : (madeOf e).ok = true := by
  have hm : entMay (e.kind % 12) = (⟨#[99, 98, 100, 111]⟩, true) := by rw [hk]; rfl
  have hm1 : (entMay (e.kind % 12)).1 = ⟨#[99, 98, 100, 111]⟩ := by rw [hm]
  unfold Ent.ok Ent.flds madeOf
  simp only [hm]
  unfold has' fitB
  simp only [List.any_cons, List.any_nil, Fld.bad, show hasI ⟨#[99, 98, 100, 111]⟩ 99 = true from by decide, show hasI ⟨#[99, 98, 100, 111]⟩ 98 = true from by decide, show hasI ⟨#[99, 98, 100, 111]⟩ 109 = false from by decide, show hasI ⟨#[99, 98, 100, 111]⟩ 110 = false from by decide, show hasI ⟨#[99, 98, 100, 111]⟩ 108 = false from by decide, show hasI ⟨#[99, 98, 100, 111]⟩ 100 = true from by decide, show hasI ⟨#[99, 98, 100, 111]⟩ 111 = true from by decide, show hasB ⟨#[99, 98, 100, 111]⟩ 99 = true from by decide, show hasB ⟨#[99, 98, 100, 111]⟩ 98 = true from by decide, show hasB ⟨#[99, 98, 100, 111]⟩ 109 = false from by decide, show hasB ⟨#[99, 98, 100, 111]⟩ 110 = false from by decide, show hasB ⟨#[99, 98, 100, 111]⟩ 108 = false from by decide, show hasB ⟨#[99, 98, 100, 111]⟩ 100 = true from by decide, show hasB ⟨#[99, 98, 100, 111]⟩ 111 = true from by decide]
  have h1 := mod_pos1 e.term 1000 (by decide)
  have h2 := mod_pos1 e.index 1000 (by decide)
  have h3 := mod_pos1 e.client 5 (by decide)
  have h4 := mod_small e.block 9 (by decide) (by decide)
  have h5 := mod_small e.many 9 (by decide) (by decide)
  have h6 := nodeW_B e.node
  have h7 := levelW_B e.level
  have h8 : decide (((cutTo 64 e.data).size : Int) ≤ 64) = true := decide_eq_true (by have := cutTo_le 64 e.data; omega)
  have h9 : decide (((cutTo 64 e.old).size : Int) ≤ 64) = true := decide_eq_true (by have := cutTo_le 64 e.old; omega)
  simp [h1, h2, h3, h4, h5, h6, h7, h8, h9]
  try exact (by decide)

theorem madeOf_ok (e : Ent) : (madeOf e).ok = true := by
  have : e.kind % 12 = 0 ∨ e.kind % 12 = 1 ∨ e.kind % 12 = 2 ∨ e.kind % 12 = 3 ∨ e.kind % 12 = 4 ∨ e.kind % 12 = 5 ∨ e.kind % 12 = 6 ∨ e.kind % 12 = 7 ∨ e.kind % 12 = 8 ∨ e.kind % 12 = 9 ∨ e.kind % 12 = 10 ∨ e.kind % 12 = 11 := by omega
  rcases this with h | h | h | h | h | h | h | h | h | h | h | h
  · exact made_ok0 e h
  · exact made_ok1 e h
  · exact made_ok2 e h
  · exact made_ok3 e h
  · exact made_ok4 e h
  · exact made_ok5 e h
  · exact made_ok6 e h
  · exact made_ok7 e h
  · exact made_ok8 e h
  · exact made_ok9 e h
  · exact made_ok10 e h
  · exact made_ok11 e h

theorem note_ok1 (m : Msg) (l : List Ent) (hk : m.kind % 10 + 1 = 1) (hl : l.length ≤ 64) (hall : l.any (fun e => !e.ok) = false) : (noteOf m l).ok = true := by
  have hm : msgMay (m.kind % 10 + 1) = (⟨#[105, 112]⟩, true) := by rw [hk]; rfl
  unfold Msg.ok Msg.flds noteOf
  simp only [hm]
  unfold has' fitB
  simp only [List.any_cons, List.any_nil, Fld.bad, show hasI ⟨#[105, 112]⟩ 105 = true from by decide, show hasI ⟨#[105, 112]⟩ 112 = true from by decide, show hasI ⟨#[105, 112]⟩ 116 = false from by decide, show hasI ⟨#[105, 112]⟩ 107 = false from by decide, show hasI ⟨#[105, 112]⟩ 121 = false from by decide, show hasI ⟨#[105, 112]⟩ 101 = false from by decide, show hasI ⟨#[105, 112]⟩ 115 = false from by decide, show hasB ⟨#[105, 112]⟩ 105 = true from by decide, show hasB ⟨#[105, 112]⟩ 112 = true from by decide, show hasB ⟨#[105, 112]⟩ 116 = false from by decide, show hasB ⟨#[105, 112]⟩ 107 = false from by decide, show hasB ⟨#[105, 112]⟩ 121 = false from by decide, show hasB ⟨#[105, 112]⟩ 101 = false from by decide, show hasB ⟨#[105, 112]⟩ 115 = false from by decide]
  have h1 := nodeW_B m.sent
  have h2 := nodeW_B m.goal
  have h3 : decide (((cutTo 200 m.snap).size : Int) ≤ 16384) = true := decide_eq_true (by have := cutTo_le 200 m.snap; omega)
  have h4 : decide (l.length ≤ 64) = true := decide_eq_true hl
  simp [h1, h2, h3, h4, hall]
  try exact (by decide)

theorem note_ok2 (m : Msg) (l : List Ent) (hk : m.kind % 10 + 1 = 2) (hl : l.length ≤ 64) (hall : l.any (fun e => !e.ok) = false) : (noteOf m l).ok = true := by
  have hm : msgMay (m.kind % 10 + 1) = (⟨#[121]⟩, true) := by rw [hk]; rfl
  unfold Msg.ok Msg.flds noteOf
  simp only [hm]
  unfold has' fitB
  simp only [List.any_cons, List.any_nil, Fld.bad, show hasI ⟨#[121]⟩ 105 = false from by decide, show hasI ⟨#[121]⟩ 112 = false from by decide, show hasI ⟨#[121]⟩ 116 = false from by decide, show hasI ⟨#[121]⟩ 107 = false from by decide, show hasI ⟨#[121]⟩ 121 = true from by decide, show hasI ⟨#[121]⟩ 101 = false from by decide, show hasI ⟨#[121]⟩ 115 = false from by decide, show hasB ⟨#[121]⟩ 105 = false from by decide, show hasB ⟨#[121]⟩ 112 = false from by decide, show hasB ⟨#[121]⟩ 116 = false from by decide, show hasB ⟨#[121]⟩ 107 = false from by decide, show hasB ⟨#[121]⟩ 121 = true from by decide, show hasB ⟨#[121]⟩ 101 = false from by decide, show hasB ⟨#[121]⟩ 115 = false from by decide]
  have h1 := nodeW_B m.sent
  have h2 := nodeW_B m.goal
  have h3 : decide (((cutTo 200 m.snap).size : Int) ≤ 16384) = true := decide_eq_true (by have := cutTo_le 200 m.snap; omega)
  have h4 : decide (l.length ≤ 64) = true := decide_eq_true hl
  simp [h1, h2, h3, h4, hall]
  try exact (by decide)

theorem note_ok3 (m : Msg) (l : List Ent) (hk : m.kind % 10 + 1 = 3) (hl : l.length ≤ 64) (hall : l.any (fun e => !e.ok) = false) : (noteOf m l).ok = true := by
  have hm : msgMay (m.kind % 10 + 1) = (⟨#[105, 112]⟩, true) := by rw [hk]; rfl
  unfold Msg.ok Msg.flds noteOf
  simp only [hm]
  unfold has' fitB
  simp only [List.any_cons, List.any_nil, Fld.bad, show hasI ⟨#[105, 112]⟩ 105 = true from by decide, show hasI ⟨#[105, 112]⟩ 112 = true from by decide, show hasI ⟨#[105, 112]⟩ 116 = false from by decide, show hasI ⟨#[105, 112]⟩ 107 = false from by decide, show hasI ⟨#[105, 112]⟩ 121 = false from by decide, show hasI ⟨#[105, 112]⟩ 101 = false from by decide, show hasI ⟨#[105, 112]⟩ 115 = false from by decide, show hasB ⟨#[105, 112]⟩ 105 = true from by decide, show hasB ⟨#[105, 112]⟩ 112 = true from by decide, show hasB ⟨#[105, 112]⟩ 116 = false from by decide, show hasB ⟨#[105, 112]⟩ 107 = false from by decide, show hasB ⟨#[105, 112]⟩ 121 = false from by decide, show hasB ⟨#[105, 112]⟩ 101 = false from by decide, show hasB ⟨#[105, 112]⟩ 115 = false from by decide]
  have h1 := nodeW_B m.sent
  have h2 := nodeW_B m.goal
  have h3 : decide (((cutTo 200 m.snap).size : Int) ≤ 16384) = true := decide_eq_true (by have := cutTo_le 200 m.snap; omega)
  have h4 : decide (l.length ≤ 64) = true := decide_eq_true hl
  simp [h1, h2, h3, h4, hall]
  try exact (by decide)

theorem note_ok4 (m : Msg) (l : List Ent) (hk : m.kind % 10 + 1 = 4) (hl : l.length ≤ 64) (hall : l.any (fun e => !e.ok) = false) : (noteOf m l).ok = true := by
  have hm : msgMay (m.kind % 10 + 1) = (⟨#[121]⟩, true) := by rw [hk]; rfl
  unfold Msg.ok Msg.flds noteOf
  simp only [hm]
  unfold has' fitB
  simp only [List.any_cons, List.any_nil, Fld.bad, show hasI ⟨#[121]⟩ 105 = false from by decide, show hasI ⟨#[121]⟩ 112 = false from by decide, show hasI ⟨#[121]⟩ 116 = false from by decide, show hasI ⟨#[121]⟩ 107 = false from by decide, show hasI ⟨#[121]⟩ 121 = true from by decide, show hasI ⟨#[121]⟩ 101 = false from by decide, show hasI ⟨#[121]⟩ 115 = false from by decide, show hasB ⟨#[121]⟩ 105 = false from by decide, show hasB ⟨#[121]⟩ 112 = false from by decide, show hasB ⟨#[121]⟩ 116 = false from by decide, show hasB ⟨#[121]⟩ 107 = false from by decide, show hasB ⟨#[121]⟩ 121 = true from by decide, show hasB ⟨#[121]⟩ 101 = false from by decide, show hasB ⟨#[121]⟩ 115 = false from by decide]
  have h1 := nodeW_B m.sent
  have h2 := nodeW_B m.goal
  have h3 : decide (((cutTo 200 m.snap).size : Int) ≤ 16384) = true := decide_eq_true (by have := cutTo_le 200 m.snap; omega)
  have h4 : decide (l.length ≤ 64) = true := decide_eq_true hl
  simp [h1, h2, h3, h4, hall]
  try exact (by decide)

theorem note_ok5 (m : Msg) (l : List Ent) (hk : m.kind % 10 + 1 = 5) (hl : l.length ≤ 64) (hall : l.any (fun e => !e.ok) = false) : (noteOf m l).ok = true := by
  have hm : msgMay (m.kind % 10 + 1) = (⟨#[105, 112, 116, 101, 107]⟩, true) := by rw [hk]; rfl
  unfold Msg.ok Msg.flds noteOf
  simp only [hm]
  unfold has' fitB
  simp only [List.any_cons, List.any_nil, Fld.bad, show hasI ⟨#[105, 112, 116, 101, 107]⟩ 105 = true from by decide, show hasI ⟨#[105, 112, 116, 101, 107]⟩ 112 = true from by decide, show hasI ⟨#[105, 112, 116, 101, 107]⟩ 116 = true from by decide, show hasI ⟨#[105, 112, 116, 101, 107]⟩ 107 = true from by decide, show hasI ⟨#[105, 112, 116, 101, 107]⟩ 121 = false from by decide, show hasI ⟨#[105, 112, 116, 101, 107]⟩ 101 = true from by decide, show hasI ⟨#[105, 112, 116, 101, 107]⟩ 115 = false from by decide, show hasB ⟨#[105, 112, 116, 101, 107]⟩ 105 = true from by decide, show hasB ⟨#[105, 112, 116, 101, 107]⟩ 112 = true from by decide, show hasB ⟨#[105, 112, 116, 101, 107]⟩ 116 = true from by decide, show hasB ⟨#[105, 112, 116, 101, 107]⟩ 107 = true from by decide, show hasB ⟨#[105, 112, 116, 101, 107]⟩ 121 = false from by decide, show hasB ⟨#[105, 112, 116, 101, 107]⟩ 101 = true from by decide, show hasB ⟨#[105, 112, 116, 101, 107]⟩ 115 = false from by decide]
  have h1 := nodeW_B m.sent
  have h2 := nodeW_B m.goal
  have h3 : decide (((cutTo 200 m.snap).size : Int) ≤ 16384) = true := decide_eq_true (by have := cutTo_le 200 m.snap; omega)
  have h4 : decide (l.length ≤ 64) = true := decide_eq_true hl
  simp [h1, h2, h3, h4, hall]
  try (simpa using hall)
  try exact (by decide)

theorem note_ok6 (m : Msg) (l : List Ent) (hk : m.kind % 10 + 1 = 6) (hl : l.length ≤ 64) (hall : l.any (fun e => !e.ok) = false) : (noteOf m l).ok = true := by
  have hm : msgMay (m.kind % 10 + 1) = (⟨#[105, 121, 107]⟩, true) := by rw [hk]; rfl
  unfold Msg.ok Msg.flds noteOf
  simp only [hm]
  unfold has' fitB
  simp only [List.any_cons, List.any_nil, Fld.bad, show hasI ⟨#[105, 121, 107]⟩ 105 = true from by decide, show hasI ⟨#[105, 121, 107]⟩ 112 = false from by decide, show hasI ⟨#[105, 121, 107]⟩ 116 = false from by decide, show hasI ⟨#[105, 121, 107]⟩ 107 = true from by decide, show hasI ⟨#[105, 121, 107]⟩ 121 = true from by decide, show hasI ⟨#[105, 121, 107]⟩ 101 = false from by decide, show hasI ⟨#[105, 121, 107]⟩ 115 = false from by decide, show hasB ⟨#[105, 121, 107]⟩ 105 = true from by decide, show hasB ⟨#[105, 121, 107]⟩ 112 = false from by decide, show hasB ⟨#[105, 121, 107]⟩ 116 = false from by decide, show hasB ⟨#[105, 121, 107]⟩ 107 = true from by decide, show hasB ⟨#[105, 121, 107]⟩ 121 = true from by decide, show hasB ⟨#[105, 121, 107]⟩ 101 = false from by decide, show hasB ⟨#[105, 121, 107]⟩ 115 = false from by decide]
  have h1 := nodeW_B m.sent
  have h2 := nodeW_B m.goal
  have h3 : decide (((cutTo 200 m.snap).size : Int) ≤ 16384) = true := decide_eq_true (by have := cutTo_le 200 m.snap; omega)
  have h4 : decide (l.length ≤ 64) = true := decide_eq_true hl
  simp [h1, h2, h3, h4, hall]
  try exact (by decide)

theorem note_ok7 (m : Msg) (l : List Ent) (hk : m.kind % 10 + 1 = 7) (hl : l.length ≤ 64) (hall : l.any (fun e => !e.ok) = false) : (noteOf m l).ok = true := by
  have hm : msgMay (m.kind % 10 + 1) = (⟨#[105, 112, 115]⟩, true) := by rw [hk]; rfl
  unfold Msg.ok Msg.flds noteOf
  simp only [hm]
  unfold has' fitB
  simp only [List.any_cons, List.any_nil, Fld.bad, show hasI ⟨#[105, 112, 115]⟩ 105 = true from by decide, show hasI ⟨#[105, 112, 115]⟩ 112 = true from by decide, show hasI ⟨#[105, 112, 115]⟩ 116 = false from by decide, show hasI ⟨#[105, 112, 115]⟩ 107 = false from by decide, show hasI ⟨#[105, 112, 115]⟩ 121 = false from by decide, show hasI ⟨#[105, 112, 115]⟩ 101 = false from by decide, show hasI ⟨#[105, 112, 115]⟩ 115 = true from by decide, show hasB ⟨#[105, 112, 115]⟩ 105 = true from by decide, show hasB ⟨#[105, 112, 115]⟩ 112 = true from by decide, show hasB ⟨#[105, 112, 115]⟩ 116 = false from by decide, show hasB ⟨#[105, 112, 115]⟩ 107 = false from by decide, show hasB ⟨#[105, 112, 115]⟩ 121 = false from by decide, show hasB ⟨#[105, 112, 115]⟩ 101 = false from by decide, show hasB ⟨#[105, 112, 115]⟩ 115 = true from by decide]
  have h1 := nodeW_B m.sent
  have h2 := nodeW_B m.goal
  have h3 : decide (((cutTo 200 m.snap).size : Int) ≤ 16384) = true := decide_eq_true (by have := cutTo_le 200 m.snap; omega)
  have h4 : decide (l.length ≤ 64) = true := decide_eq_true hl
  simp [h1, h2, h3, h4, hall]
  try exact (by decide)

theorem note_ok8 (m : Msg) (l : List Ent) (hk : m.kind % 10 + 1 = 8) (hl : l.length ≤ 64) (hall : l.any (fun e => !e.ok) = false) : (noteOf m l).ok = true := by
  have hm : msgMay (m.kind % 10 + 1) = (⟨#[105]⟩, true) := by rw [hk]; rfl
  unfold Msg.ok Msg.flds noteOf
  simp only [hm]
  unfold has' fitB
  simp only [List.any_cons, List.any_nil, Fld.bad, show hasI ⟨#[105]⟩ 105 = true from by decide, show hasI ⟨#[105]⟩ 112 = false from by decide, show hasI ⟨#[105]⟩ 116 = false from by decide, show hasI ⟨#[105]⟩ 107 = false from by decide, show hasI ⟨#[105]⟩ 121 = false from by decide, show hasI ⟨#[105]⟩ 101 = false from by decide, show hasI ⟨#[105]⟩ 115 = false from by decide, show hasB ⟨#[105]⟩ 105 = true from by decide, show hasB ⟨#[105]⟩ 112 = false from by decide, show hasB ⟨#[105]⟩ 116 = false from by decide, show hasB ⟨#[105]⟩ 107 = false from by decide, show hasB ⟨#[105]⟩ 121 = false from by decide, show hasB ⟨#[105]⟩ 101 = false from by decide, show hasB ⟨#[105]⟩ 115 = false from by decide]
  have h1 := nodeW_B m.sent
  have h2 := nodeW_B m.goal
  have h3 : decide (((cutTo 200 m.snap).size : Int) ≤ 16384) = true := decide_eq_true (by have := cutTo_le 200 m.snap; omega)
  have h4 : decide (l.length ≤ 64) = true := decide_eq_true hl
  simp [h1, h2, h3, h4, hall]
  try exact (by decide)

theorem note_ok9 (m : Msg) (l : List Ent) (hk : m.kind % 10 + 1 = 9) (hl : l.length ≤ 64) (hall : l.any (fun e => !e.ok) = false) : (noteOf m l).ok = true := by
  have hm : msgMay (m.kind % 10 + 1) = (⟨#[107]⟩, true) := by rw [hk]; rfl
  unfold Msg.ok Msg.flds noteOf
  simp only [hm]
  unfold has' fitB
  simp only [List.any_cons, List.any_nil, Fld.bad, show hasI ⟨#[107]⟩ 105 = false from by decide, show hasI ⟨#[107]⟩ 112 = false from by decide, show hasI ⟨#[107]⟩ 116 = false from by decide, show hasI ⟨#[107]⟩ 107 = true from by decide, show hasI ⟨#[107]⟩ 121 = false from by decide, show hasI ⟨#[107]⟩ 101 = false from by decide, show hasI ⟨#[107]⟩ 115 = false from by decide, show hasB ⟨#[107]⟩ 105 = false from by decide, show hasB ⟨#[107]⟩ 112 = false from by decide, show hasB ⟨#[107]⟩ 116 = false from by decide, show hasB ⟨#[107]⟩ 107 = true from by decide, show hasB ⟨#[107]⟩ 121 = false from by decide, show hasB ⟨#[107]⟩ 101 = false from by decide, show hasB ⟨#[107]⟩ 115 = false from by decide]
  have h1 := nodeW_B m.sent
  have h2 := nodeW_B m.goal
  have h3 : decide (((cutTo 200 m.snap).size : Int) ≤ 16384) = true := decide_eq_true (by have := cutTo_le 200 m.snap; omega)
  have h4 : decide (l.length ≤ 64) = true := decide_eq_true hl
  simp [h1, h2, h3, h4, hall]
  try exact (by decide)

theorem note_ok10 (m : Msg) (l : List Ent) (hk : m.kind % 10 + 1 = 10) (hl : l.length ≤ 64) (hall : l.any (fun e => !e.ok) = false) : (noteOf m l).ok = true := by
  have hm : msgMay (m.kind % 10 + 1) = (⟨#[107]⟩, true) := by rw [hk]; rfl
  unfold Msg.ok Msg.flds noteOf
  simp only [hm]
  unfold has' fitB
  simp only [List.any_cons, List.any_nil, Fld.bad, show hasI ⟨#[107]⟩ 105 = false from by decide, show hasI ⟨#[107]⟩ 112 = false from by decide, show hasI ⟨#[107]⟩ 116 = false from by decide, show hasI ⟨#[107]⟩ 107 = true from by decide, show hasI ⟨#[107]⟩ 121 = false from by decide, show hasI ⟨#[107]⟩ 101 = false from by decide, show hasI ⟨#[107]⟩ 115 = false from by decide, show hasB ⟨#[107]⟩ 105 = false from by decide, show hasB ⟨#[107]⟩ 112 = false from by decide, show hasB ⟨#[107]⟩ 116 = false from by decide, show hasB ⟨#[107]⟩ 107 = true from by decide, show hasB ⟨#[107]⟩ 121 = false from by decide, show hasB ⟨#[107]⟩ 101 = false from by decide, show hasB ⟨#[107]⟩ 115 = false from by decide]
  have h1 := nodeW_B m.sent
  have h2 := nodeW_B m.goal
  have h3 : decide (((cutTo 200 m.snap).size : Int) ≤ 16384) = true := decide_eq_true (by have := cutTo_le 200 m.snap; omega)
  have h4 : decide (l.length ≤ 64) = true := decide_eq_true hl
  simp [h1, h2, h3, h4, hall]
  try exact (by decide)

theorem noteOf_ok (m : Msg) (l : List Ent) (hl : l.length ≤ 64) (hall : l.any (fun e => !e.ok) = false) : (noteOf m l).ok = true := by
  have : m.kind % 10 + 1 = 1 ∨ m.kind % 10 + 1 = 2 ∨ m.kind % 10 + 1 = 3 ∨ m.kind % 10 + 1 = 4 ∨ m.kind % 10 + 1 = 5 ∨ m.kind % 10 + 1 = 6 ∨ m.kind % 10 + 1 = 7 ∨ m.kind % 10 + 1 = 8 ∨ m.kind % 10 + 1 = 9 ∨ m.kind % 10 + 1 = 10 := by omega
  rcases this with h | h | h | h | h | h | h | h | h | h
  · exact note_ok1 m l h hl hall
  · exact note_ok2 m l h hl hall
  · exact note_ok3 m l h hl hall
  · exact note_ok4 m l h hl hall
  · exact note_ok5 m l h hl hall
  · exact note_ok6 m l h hl hall
  · exact note_ok7 m l h hl hall
  · exact note_ok8 m l h hl hall
  · exact note_ok9 m l h hl hall
  · exact note_ok10 m l h hl hall
theorem noteM_ok (m : Msg) (l : List Ent) : (noteM m l).ok = true := by
  refine noteOf_ok m _ (by rw [List.length_take]; omega) ?_
  rw [List.any_eq_false]
  intro x hx
  obtain ⟨y, _, rfl⟩ := List.mem_map.1 (List.mem_of_mem_take hx)
  rw [madeOf_ok]
  decide
end Go.Proofs.YthfaaoeecajkeaaDoor
