/-
  Texts of this seat, joined: FPut.
-/
import Derived.Test.YtacdbglocpaeaaaZFVar
import Derived.KernelRfl
set_option linter.unusedSimpArgs false
set_option linter.unusedVariables false
namespace Go.Proofs.Ytacdbglocpaeaaa
open Go.RowKit

theorem Try.elB : ElT Try.prog 46 5 (.int .u8 0) 1 1 := ElT.mk' Try.underlying46 (by kernel_rfl) rfl (by decide)

def cellsB (l : List UInt8) : List Value := l.map (fun b => Value.int .u8 (b.toNat : Int))

theorem or128 : ∀ r : Fin 256, bits BinOp.or IntKind.u8 (r.val : Int) 128 = (r.val : Int) % 128 + 128 := by decide +kernel

theorem or128_int (q : Int) (_h : 0 ≤ q) : bits BinOp.or IntKind.u8 (q % 256) 128 = ((UInt8.ofNat (q.toNat % 128 + 128)).toNat : Int) := by
  have h1 := or128 ⟨(q % 256).toNat, by omega⟩
  have h2 : (((q % 256).toNat : Nat) : Int) = q % 256 := by omega
  simp only [h2] at h1
  rw [h1]
  simp
  omega

theorem putF_more {f : Nat} {q : Int} (_h : 0 ≤ q) (hq : 128 ≤ q) : putF (f + 1) q.toNat = UInt8.ofNat (q.toNat % 128 + 128) :: putF f (q / 128).toNat := by
  rw [putF, if_neg (by omega)]
  congr 2
  omega

theorem putF_last {f : Nat} {q : Int} (hq : q < 128) : putF (f + 1) q.toNat = [UInt8.ofNat q.toNat] := by
  rw [putF, if_pos (by omega)]

theorem cellsB_snoc (l : List UInt8) (b : UInt8) : cellsB l ++ [.int .u8 (b.toNat : Int)] = cellsB (l ++ [b]) := by simp [cellsB]

theorem ofNat_toNat {q : Int} (h0 : 0 ≤ q) (h : q < 256) : ((UInt8.ofNat q.toNat).toNat : Int) = q := by simp; omega

set_option maxRecDepth 100000 in
set_option maxHeartbeats 1000000 in
theorem vPut (n : Int) (w : World) (hn0 : 0 ≤ n) (hn : n < 18446744073709551616):
    Calls Try.prog 44 #[.int .u64 n] w fun e w' =>
      e = .returned (.string (bs (putL n.toNat))) ∧ Fr [] w w' := by
  have Hn : Hid (n.toNat < 128 ^ 10) := show n.toNat < 128 ^ 10 from Nat.lt_of_lt_of_le (m := 18446744073709551616) (by omega) (by decide)
  go_enter Try.func44, Try.ntmps44
  go_wp2_with (refine wpList_make0 Try.elB _ _ 10 _ _ rfl rfl w.heap.size (Nat.le_refl _) (by decide) (by decide) ?_; intro v0 w0 hO0 hF0)
  go_loopw [0, 3] (fun x v wr => ∃ q f l, x = .int .u64 q ∧ 0 ≤ q ∧ q < 18446744073709551616 ∧ l.length + f = 9 ∧ Hid (q.toNat < 128 ^ (f + 1)) ∧ Hid (putL n.toNat = l ++ putF (f + 1) q.toNat) ∧ Hid (wr.ownsRow w.heap.size 5 1 v l.length (cellsB l)) ∧ Hid (Fr [] w wr)) (fun x _ _ => (intOf x).toNat)
  case atStart => exact ⟨n, 9, [], rfl, hn0, hn, rfl, Hn, rfl, hO0, hF0⟩
  case round =>
    obtain ⟨q, f, l, rfl, hq0, hq, hlf, Hk, Hp, Ho, HF⟩ := hrel
    have hl9 : l.length + 1 ≤ maxLen := by unfold maxLen; omega
    have hsz := HF.out.size
    by_cases hlt : q < 128
    · go_wp2_with (refine wpList_app Try.elB (.tmp 15) (.tmp 18) w.heap.size _ l.length (cellsB l) rfl (Ho.out.alloc _) ⟨wr.heap.size, 0, none⟩ 1 1 [.int .u8 q] rfl rfl (cell_one_new _ _ _) (by simp [Value.oneCell']) hl9 (by omega) (by show _ ≤ (wr.heap.push _).size; rw [Array.size_push]; omega) ?_; intro v1 w1 Ho1 HF1; have hcv := run_string_own (P := Try.prog) (l := l ++ [UInt8.ofNat q.toNat]) Try.underlying46 Try.underlying5 Try.underlying9 (by rw [← cellsB, ← cellsB_snoc, ofNat_toNat hq0 (by omega)]; exact Ho1.out))
      go_ret
      exact ⟨ret_str (by rw [Hp.out, putF_last hlt]; rfl), ((HF.out.alloc _).trans HF1.out (fun x hx => .inr (ownsRow_below Ho.out x hx)))⟩
    · obtain ⟨f, rfl⟩ : ∃ m, f = m + 1 := by
        cases f with
        | zero => have := Hk.out; omega
        | succ m => exact ⟨m, rfl⟩
      go_wp2_with (refine wpList_app Try.elB (.tmp 9) (.tmp 13) w.heap.size _ l.length (cellsB l) rfl (Ho.out.alloc _) ⟨wr.heap.size, 0, none⟩ 1 1 [.int .u8 (bits BinOp.or IntKind.u8 (q % 256) 128)] rfl rfl (cell_one_new _ _ _) (by simp [Value.oneCell']) hl9 (by omega) (by show _ ≤ (wr.heap.push _).size; rw [Array.size_push]; omega) ?_; intro v1 w1 Ho1 HF1)
      refine ⟨⟨q / 128, f, l ++ [UInt8.ofNat (q.toNat % 128 + 128)], rfl, by omega, by omega, by simp only [List.length_append, List.length_cons, List.length_nil]; omega, ?_, ?_, ?_, ?_⟩, by simp only [intOf]; omega⟩
      · have h := Hk.out
        rw [Nat.pow_succ] at h
        show (q / 128).toNat < 128 ^ (f + 1)
        omega
      · show putL n.toNat = _
        rw [Hp.out, putF_more hq0 (by omega)]; simp
      · show World.ownsRow _ _ _ _ _ _ _
        rw [← cellsB_snoc, ← or128_int q hq0]
        simpa using Ho1.out
      · exact ((HF.out.alloc _).trans HF1.out (fun x hx => .inr (ownsRow_below Ho.out x hx)))
end Go.Proofs.Ytacdbglocpaeaaa
