/-
  Texts of this seat, joined: RHas.
-/
import Derived.Test.YtacdbglocpaeaaaZFSh4
set_option linter.unusedSimpArgs false
set_option linter.unusedVariables false
namespace Go.Proofs.Ytacdbglocpaeaaa
open Go.RowKit

def hasI (s : ByteArray) (c : Int) : Bool := s.data.toList.any (fun x => (x.toNat : Int) == c)

theorem hasI_no {s : ByteArray} {c : Int} (h : ∀ k (hk : k < s.size), (s[k].toNat : Int) ≠ c) : hasI s c = false := by
  unfold hasI
  rw [List.any_eq_false]
  intro x hx
  obtain ⟨k, hk, e⟩ := List.getElem_of_mem hx
  have := h k (by simpa using hk)
  subst e
  simp
  exact this
theorem hasI_yes {s : ByteArray} {c : Int} {k : Nat} (hk : k < s.size) (h : (s[k].toNat : Int) = c) : hasI s c = true := by
  unfold hasI
  rw [List.any_eq_true]
  exact ⟨s[k], by show s.data[k] ∈ s.data.toList; simp, by simpa using h⟩

set_option maxHeartbeats 1000000 in
theorem rHas (s : ByteArray) (c : Int) (w : World) (hs : s.size ≤ maxLen) : Calls Try.prog 59 #[.string s, .int .u8 c] w fun e w' => e = .returned (.bool (hasI s c)) ∧ w = w' := by
  unfold maxLen at hs
  go_enter Try.func59, Try.ntmps59
  go_wp2
  go_loop [5] (fun i => ∃ k : Nat, k ≤ s.size ∧ i = .int .i64 k ∧ Hid (∀ j (hj : j < s.size), j < k → (s[j].toNat : Int) ≠ c)) (fun i => s.size - (intOf i).toNat)
  case atStart => exact ⟨0, by omega, rfl, fun j hj h => absurd h (by omega)⟩
  case round =>
    obtain ⟨k, hk, rfl, HA⟩ := hrel
    by_cases hlt : k < s.size
    · by_cases he : (s[k].toNat : Int) = c
      · have he2 : ((s[k].toNat : Int) == c) = true := by simpa using he
        have HE := Lib.hid (hasI_yes hlt he)
        clear he
        go_wp2
        go_ret
        exact ⟨by rw [HE.out]; rfl, rfl⟩
      · have he2 : ((s[k].toNat : Int) == c) = false := by simpa using he
        have HE := Lib.hid he
        clear he
        go_wp2
        go_round
        case rel => exact ⟨k + 1, by omega, by go_num, fun j hj hjk => by
          by_cases e : j = k
          · subst e; exact HE.out
          · exact HA.out j hj (by omega)⟩
        case measure => simp [intOf]; omega
    · go_wp2
      go_ret
      exact ⟨by rw [hasI_no (fun j hj => HA.out j hj (by omega))]; rfl, rfl⟩

set_option maxHeartbeats 2000000 in
theorem rFields (k : Int) (w : World) : Calls Try.prog 57 #[.int .i64 k] w fun e w' => e = .returned (.tuple #[.string (entMay k).1, .bool (entMay k).2]) ∧ Fr [] w w' := by
  by_cases h : 0 ≤ k ∧ k ≤ 11
  · obtain ⟨h0, h1⟩ := h
    have : k = 0 ∨ k = 1 ∨ k = 2 ∨ k = 3 ∨ k = 4 ∨ k = 5 ∨ k = 6 ∨ k = 7 ∨ k = 8 ∨ k = 9 ∨ k = 10 ∨ k = 11 := by omega
    rcases this with rfl | rfl | rfl | rfl | rfl | rfl | rfl | rfl | rfl | rfl | rfl | rfl
    all_goals
      go_enter Try.func57, Try.ntmps57
      go_wp2
      go_ret2
      exact ⟨rfl, (Fr.refl _ _).alloc _⟩
  · have hn : entMay k = (⟨#[]⟩, false) := by
      unfold entMay
      repeat rw [if_neg (by omega)]
    rw [hn]
    clear hn
    by_cases h2 : k < 0
    · clear h
      go_enter Try.func57, Try.ntmps57
      go_wp2
      go_ret2
      exact ⟨rfl, Fr.refl _ _⟩
    · have h3 : 11 < k := by omega
      clear h
      go_enter Try.func57, Try.ntmps57
      go_wp2
      go_ret2
      exact ⟨rfl, Fr.refl _ _⟩

set_option maxHeartbeats 2000000 in
theorem rMsgFields (k : Int) (w : World) : Calls Try.prog 40 #[.int .i64 k] w fun e w' => e = .returned (.tuple #[.string (msgMay k).1, .bool (msgMay k).2]) ∧ Fr [] w w' := by
  by_cases h : 1 ≤ k ∧ k ≤ 10
  · obtain ⟨h0, h1⟩ := h
    have : k = 1 ∨ k = 2 ∨ k = 3 ∨ k = 4 ∨ k = 5 ∨ k = 6 ∨ k = 7 ∨ k = 8 ∨ k = 9 ∨ k = 10 := by omega
    rcases this with rfl | rfl | rfl | rfl | rfl | rfl | rfl | rfl | rfl | rfl
    all_goals
      go_enter Try.func40, Try.ntmps40
      go_wp2
      go_ret2
      exact ⟨rfl, (Fr.refl _ _).alloc _⟩
  · have hn : msgMay k = (⟨#[]⟩, false) := by
      unfold msgMay
      repeat rw [if_neg (by omega)]
    rw [hn]
    clear hn
    by_cases h2 : k < 1
    · clear h
      go_enter Try.func40, Try.ntmps40
      go_wp2
      go_ret2
      exact ⟨rfl, Fr.refl _ _⟩
    · have h3 : 10 < k := by omega
      clear h
      go_enter Try.func40, Try.ntmps40
      go_wp2
      go_ret2
      exact ⟨rfl, Fr.refl _ _⟩
end Go.Proofs.Ytacdbglocpaeaaa
