/-
  Texts of this seat, joined: FVar2.
-/
import Derived.Test.YtacdbglocpaeaaaZFVar
set_option linter.unusedSimpArgs false
set_option linter.unusedVariables false
namespace Go.Proofs.Ytacdbglocpaeaaa
open Go.RowKit

/-- Var: what is read, what is left, whether it is bad. -/
def rdVar (s : ByteArray) (b : Bool) : Int × ByteArray × Bool :=
  match varGo s.data.toList 0 0 with
  | some (n, k) => ((n : Int), s.extract k s.size, b)
  | none => (0, ⟨#[]⟩, true)

theorem drop_cons (s : ByteArray) (k : Nat) (h : k < s.size) : s.data.toList.drop k = s[k] :: s.data.toList.drop (k + 1) := by
  have h' : k < s.data.toList.length := h
  rw [List.drop_eq_getElem_cons h']
  rfl

theorem varGo_more {s : ByteArray} {k : Nat} (h : k < s.size) {n : Nat} (h10 : k < 10) (hc : 128 ≤ s[k].toNat) :
    varGo (s.data.toList.drop k) k n = varGo (s.data.toList.drop (k + 1)) (k + 1) (vS n s[k].toNat k) := by
  rw [drop_cons s k h, varGo, if_neg (by omega), if_pos hc]

theorem varGo_end {s : ByteArray} {k : Nat} {n : Nat} (h : 10 ≤ k ∨ s.size ≤ k) : varGo (s.data.toList.drop k) k n = none := by
  rcases h with h | h
  · cases hl : s.data.toList.drop k with
    | nil => rfl
    | cons c r => rw [varGo, if_pos h]
  · rw [List.drop_eq_nil_of_le (by exact h)]; rfl

theorem rdVar_bad {s : ByteArray} {b : Bool} {k : Nat} {n : Nat} (H : Hid (varGo s.data.toList 0 0 = varGo (s.data.toList.drop k) k n)) (h : k < s.size) (hc : s[k].toNat < 128)
    (hbad : (0 < k ∧ s[k].toNat = 0) ∨ (k = 9 ∧ 1 < s[k].toNat)) : rdVar s b = (0, ⟨#[]⟩, true) := by
  rw [rdVar, H.out, drop_cons s k h, varGo]
  by_cases h10 : 10 ≤ k
  · rw [if_pos h10]
  · rw [if_neg h10, if_neg (by omega), if_pos hbad]

theorem rdVar_ok {s : ByteArray} {b : Bool} {k : Nat} {n : Nat} (H : Hid (varGo s.data.toList 0 0 = varGo (s.data.toList.drop k) k n)) (h : k < s.size) (h10 : k < 10) (hc : s[k].toNat < 128)
    (hok : ¬ ((0 < k ∧ s[k].toNat = 0) ∨ (k = 9 ∧ 1 < s[k].toNat))) : rdVar s b = (((vS n s[k].toNat k : Nat) : Int), s.extract (k + 1) s.size, b) := by
  rw [rdVar, H.out, drop_cons s k h, varGo, if_neg (by omega), if_neg (by omega), if_neg hok]

theorem rdVar_end {s : ByteArray} {b : Bool} {k : Nat} {n : Nat} (H : Hid (varGo s.data.toList 0 0 = varGo (s.data.toList.drop k) k n)) (h : 10 ≤ k ∨ s.size ≤ k) : rdVar s b = (0, ⟨#[]⟩, true) := by
  rw [rdVar, H.out, varGo_end h]

theorem bne_false {a : Nat} (h : ((a : Int) == 0) = false) : a ≠ 0 := by simpa using h

set_option maxRecDepth 100000 in
set_option maxHeartbeats 1000000 in
theorem vVar (r : Nat) (s : ByteArray) (b : Bool) (w : World) (h : Rd w r s b) (hs : s.size ≤ maxLen) :
    Calls Try.prog 30 #[.pointer (some ⟨r, 0, none⟩)] w fun e w' =>
      e = .returned (.int .u64 (rdVar s b).1) ∧ Rd w' r (rdVar s b).2.1 (rdVar s b).2.2 ∧ Fr [r] w w' := by
  unfold maxLen at hs
  have c0 := h.cellAt (i := 0) rfl
  have f0 := h.froz 0
  go_enter Try.func30, Try.ntmps30
  go_wp2_with fail
  have hm := mnI_le 10 s.size
  have hm0 : 0 ≤ mnI 10 s.size := by omega
  generalize mnI 10 s.size = m at *
  go_loop [2, 11] (fun v i => ∃ (k n : Nat) (q : Int), k ≤ m ∧ i = .int .i64 k ∧ v = .int .u64 q ∧ Hid (q = (n : Int) ∧ n < 18446744073709551616) ∧ Hid (varGo s.data.toList 0 0 = varGo (s.data.toList.drop k) k n)) (fun _ i => s.size - (intOf i).toNat)
  case atStart => exact ⟨0, 0, 0, by omega, rfl, rfl, ⟨rfl, by decide⟩, rfl⟩
  case round =>
    obtain ⟨k, n, q, hk, rfl, rfl, HQ, HV⟩ := hrel
    by_cases hlt : k < m
    · have h1 : k < 10 := by omega
      have h2 : k < s.size := by omega
      have HN := Lib.hid (vS_bits (k := k) HQ.out.1 HQ.out.2 s[k].toNat_lt)
      go_wp2_with (go_at_call 47; refine (vFail _ _ _ _ h).mono ?_; rintro e w' ⟨rfl, h3, h4⟩)
      · go_round
        case rel => exact ⟨k + 1, _, _, by omega, by go_num, rfl, ⟨HN.out, vS_lt HQ.out.2⟩, HV.out.trans (varGo_more h2 h1 (by omega))⟩
        case measure => simp [intOf]; omega
      · go_ret
        rw [rdVar_bad HV h2 (by omega) (by omega)]
        exact ⟨by simp, h3, h4⟩
      · go_ret
        rw [rdVar_bad HV h2 (by omega) (by rename_i h5 _; rcases h5 with h5 | h5; (simp at h5; omega); omega)]
        exact ⟨by simp, h3, h4⟩
      · go_ret
        obtain rfl : k = 9 := by omega
        rw [rdVar_ok HV h2 h1 (by omega) (by rename_i h5; have := bne_false h5.1; omega)]
        exact ⟨ret_int HN.out, Blk.set h 0 _, (Fr.refl _ _).setCell (by simp) _⟩
      · go_ret
        rw [rdVar_ok HV h2 h1 (by omega) (by omega)]
        exact ⟨ret_int HN.out, Blk.set h 0 _, (Fr.refl _ _).setCell (by simp) _⟩
      · go_ret
        rw [rdVar_ok HV h2 h1 (by omega) (by omega)]
        exact ⟨ret_int HN.out, Blk.set h 0 _, (Fr.refl _ _).setCell (by simp) _⟩
    · go_wp2_with (go_at_call 47; refine (vFail _ _ _ _ h).mono ?_; rintro e w' ⟨rfl, h3, h4⟩)
      go_ret
      rw [rdVar_end HV (by omega)]
      exact ⟨by simp, h3, h4⟩
end Go.Proofs.Ytacdbglocpaeaaa
