/-
  Texts of this seat, joined: FFix.
-/
import Derived.Test.YtacdbglocpaeaaaZFVar
import Derived.KernelRfl
set_option linter.unusedSimpArgs false
set_option linter.unusedVariables false
namespace Go.Proofs.Ytacdbglocpaeaaa
open Go.RowKit

def fixB (n : Int) (i : Nat) : Int := n / 2 ^ (8 * (7 - i)) % 256
def fixArr (n : Int) (k : Nat) : Array Value := ((List.range 8).map (fun i => Value.int .u8 (if i < k then fixB n i else 0))).toArray
/-- A number's lowest bytes. -/
def fixL (n : Int) (size : Nat) : List UInt8 := ((List.range 8).drop (8 - size)).map (fun i => UInt8.ofNat (fixB n i).toNat)

theorem fixArr_set (n : Int) (k : Nat) (h : k < 8) : (fixArr n k).setIfInBounds k (.int .u8 (n / 2 ^ (8 * (7 - k)) % 256)) = fixArr n (k + 1) := by
  match k, h with
  | 0, _ => rfl | 1, _ => rfl | 2, _ => rfl | 3, _ => rfl | 4, _ => rfl | 5, _ => rfl | 6, _ => rfl | 7, _ => rfl

theorem fixArr_get (n : Int) (k i : Nat) (h : i < 8) : (fixArr n k)[i]? = some (.int .u8 (if i < k then fixB n i else 0)) := by
  simp [fixArr, h]

theorem fixB_bd (n : Int) (i : Nat) : 0 ≤ fixB n i ∧ fixB n i < 256 := by
  unfold fixB; omega

theorem fixL_length (n : Int) (size : Nat) (h : size ≤ 8) : (fixL n size).length = size := by
  simp [fixL]; omega

theorem fixL_get (n : Int) (size j : Nat) (hj : j < (fixL n size).length) (hs : size ≤ 8) : ((fixL n size)[j].toNat : Int) = fixB n (8 - size + j) := by
  have h1 : j < size := by rw [fixL_length n size hs] at hj; exact hj
  have hb := fixB_bd n (8 - size + j)
  simp [fixL]
  omega

theorem Try.arrayLen8 : Try.prog.arrayLen 76 = 8 := by kernel_rfl

theorem slice8 (g size : Nat) (h : size ≤ 8) (h1 : 1 ≤ size) (w : World) :
    (Instr.sliceAt 76 (.pointer (some ⟨g, 0, none⟩)) (some (.int .i64 (8 - (size : Int)))) none none).run Try.prog w = .ok (.slice (some ⟨g, 8 - size, none⟩) size size) w := by
  rw [run_sliceAt_array_l w 76 _ (by kernel_rfl) _ _ (by omega) (by rw [Try.arrayLen8]; omega), Try.arrayLen8]
  have e : ((8 : Int) - size).toNat = 8 - size := by omega
  have hz : (sizeOf (Try.prog.elem 76)).run Try.prog w = .ok 1 w := by kernel_rfl
  rw [hz, e]
  have h3 : ¬ (8 = 8 - size) := by omega
  have h4 : 8 - (8 - size) = size := by omega
  simp [Result.andThen, slicedAt, h3, h4, Addr.add]
  omega

set_option maxRecDepth 100000 in
set_option maxHeartbeats 1000000 in
theorem vFixed (n : Int) (size : Nat) (w : World) (h : size ≤ 8) (h1 : 1 ≤ size) (_hn0 : 0 ≤ n) (_hn : n < 18446744073709551616):
    Calls Try.prog 20 #[.int .u64 n, .int .i64 size] w fun e w' =>
      e = .returned (.string (bs (fixL n size))) ∧ Fr [] w w' := by
  have hsl := slice8 w.heap.size size h h1
  go_enter Try.func20, Try.ntmps20
  go_wp2_with fail
  go_loopw [6, 13] (fun _ i wr => ∃ k : Nat, k ≤ 8 ∧ i = .int .i64 k ∧ Blk wr w.heap.size (fixArr n k) 76 ∧ Fr [] w wr) (fun _ i _ => 8 - (intOf i).toNat)
  case atStart => exact ⟨0, by omega, rfl, Blk.new w (fixArr n 0) _, (Fr.refl _ _).alloc _⟩
  case round =>
    obtain ⟨k, hk, rfl, HB, HF⟩ := hrel
    by_cases hlt : k < 8
    · have hc := HB.cellAt (fixArr_get n k k hlt)
      have hf := HB.froz k
      clear hsl
      go_wp2_with fail
      go_roundw
      case rel => exact ⟨k + 1, by omega, by go_num, by rw [← fixArr_set n k hlt]; exact HB.set k _, HF.setCell (.inr (Nat.le_refl _)) _⟩
      case measure => simp [intOf]; omega
    · obtain rfl : k = 8 := by omega
      have hcv := run_convert_bytes_back (P := Try.prog) wr 46 9 5 ⟨w.heap.size, 8 - size, none⟩ size (fixL n size) Try.underlying46 Try.underlying5 Try.underlying9
        (fun j hj => by
          have h2 : j < size := by rw [fixL_length n size h] at hj; exact hj
          rw [fixL_get n size j hj h]
          have h5 := HB.cellAt (fixArr_get n 8 (8 - size + j) (by omega))
          rw [if_pos (by omega)] at h5
          rw [← h5]
          unfold Addr.add
          split
          · subst j; rfl
          · rfl)
      rw [fixL_length n size h] at hcv
      go_wp2_with fail
      go_ret
      exact ⟨by simp [bs], HF⟩
end Go.Proofs.Ytacdbglocpaeaaa
