/-
  bend: it answers a text of the same length; nothing that was there has turned.
-/
import Derived.Test.YtacdbglocpaeaaaFFrame
import Derived.RegionTactic
import Derived.BigRegion
import Derived.IntWalk
namespace Go.Proofs.Ytacdbglocpaeaaa
open Go.RowKit

def SomeStr (n : Nat) (w : World) (e : Ending) (w' : World) : Prop := ∃ t : ByteArray, e = .returned (.string t) ∧ t.size = n ∧ Fr [] w w'

set_option maxRecDepth 100000 in
set_option maxHeartbeats 2000000 in
theorem fBend (s : ByteArray) (at_ : Int) (by_ : Int) (w : World) (hs : s.size ≤ maxLen) (ha0 : -9223372036854775808 ≤ at_) (ha1 : at_ ≤ 9223372036854775807) :
    Calls Try.prog 11 #[.string s, .int .i64 at_, .int .u8 by_] w (SomeStr s.size w) := by
  unfold maxLen at hs
  by_cases h0 : s.size = 0
  · have he : s.toList.isEmpty = true := by
      rw [Lib.toList_data]
      have : s.data.toList = [] := List.eq_nil_of_length_eq_zero h0
      simp [this]
    go_enter Try.func11, Try.ntmps11
    go_wp2_with fail
    go_ret
    exact ⟨s, rfl, rfl, Fr.refl _ _⟩
  · have he : s.toList.isEmpty = false := by
      rw [Lib.toList_data]
      cases h : s.data.toList with
      | nil => exact absurd (show s.data.toList.length = 0 by rw [h]; rfl) h0
      | cons _ _ => rfl
    have hpos : 0 < s.size := by omega
    by_cases hn : at_ < 0
    · have hm0 : 0 ≤ -(at_ + 1) := by omega
      have ht : (at_ + 1).tmod (s.size : Int) = -((-(at_ + 1)) % (s.size : Int)) := by
        have h1 : (-(at_ + 1)).tmod (s.size : Int) = -(at_ + 1).tmod (s.size : Int) := Int.neg_tmod _ _
        rw [Int.tmod_eq_emod_of_nonneg hm0] at h1
        omega
      have hk0 : 0 ≤ (-(at_ + 1)) % (s.size : Int) := Int.emod_nonneg _ (by omega)
      have hk1 : (-(at_ + 1)) % (s.size : Int) < s.size := Int.emod_lt_of_pos _ (by omega)
      have hj0 : (at_ + 1).tmod (s.size : Int) ≤ 0 := by omega
      have hj1 : -(at_ + 1).tmod (s.size : Int) < s.size := by omega
      clear ht hk0 hk1
      go_enter Try.func11, Try.ntmps11
      go_wp2_with (refine wpList_bytes 9 46 5 _ Try.underlying9 Try.underlying46 Try.underlying5 _ rfl ?_; intro g cap w2 hg hB hF)
      obtain ⟨j, hj⟩ : ∃ j : Nat, -(at_ + 1).tmod (s.size : Int) = j := ⟨(-(at_ + 1).tmod (s.size : Int)).toNat, by omega⟩
      have hc := hB.out.cell (j := j) (by omega)
      have hfz : w2.frozen? ⟨g, j, none⟩ = false := hB.out.froz (by omega)
      go_region
      have hq0 := bits_lo_u8 .xor (((s.data[j]?.getD 0).toNat : Nat) : Int) by_
      have hq1 := bits_hi_u8 .xor (((s.data[j]?.getD 0).toNat : Nat) : Int) by_
      generalize bits BinOp.xor IntKind.u8 (((s.data[j]?.getD 0).toNat : Nat) : Int) by_ = q at *
      have HB2 : Hid (Byts ((w2.setCell ⟨g, j, none⟩ (.int .u8 q)).drew) g s.size) := hB.out.some.set j q hq0 hq1
      have HF2 : Hid (Fr [] w ((w2.setCell ⟨g, j, none⟩ (.int .u8 q)).drew)) := (hF.out.setCell (.inr (Nat.le_of_eq hg.out.symm)) _).drew
      obtain ⟨l, hl, hcv⟩ := HB2.out.str Try.underlying46 Try.underlying5 Try.underlying9 cap
      have Hl := Lib.hid hl
      clear hl hc hfz hj
      generalize (w2.setCell ⟨g, j, none⟩ (.int .u8 q)).drew = w3 at *
      go_wp2_with fail
      go_ret
      exact ⟨_, rfl, (show l.toArray.size = s.size by rw [List.size_toArray]; exact Hl.out), HF2.out⟩
    · have hm0 : 0 ≤ at_ := by omega
      have hj0 : 0 ≤ at_ % (s.size : Int) := Int.emod_nonneg _ (by omega)
      have hj1 : at_ % (s.size : Int) < s.size := Int.emod_lt_of_pos _ (by omega)
      go_enter Try.func11, Try.ntmps11
      go_wp2_with (refine wpList_bytes 9 46 5 _ Try.underlying9 Try.underlying46 Try.underlying5 _ rfl ?_; intro g cap w2 hg hB hF)
      obtain ⟨j, hj⟩ : ∃ j : Nat, at_ % (s.size : Int) = j := ⟨(at_ % (s.size : Int)).toNat, by omega⟩
      have hc := hB.out.cell (j := j) (by omega)
      have hfz : w2.frozen? ⟨g, j, none⟩ = false := hB.out.froz (by omega)
      go_region
      have hq0 := bits_lo_u8 .xor (((s.data[j]?.getD 0).toNat : Nat) : Int) by_
      have hq1 := bits_hi_u8 .xor (((s.data[j]?.getD 0).toNat : Nat) : Int) by_
      generalize bits BinOp.xor IntKind.u8 (((s.data[j]?.getD 0).toNat : Nat) : Int) by_ = q at *
      have HB2 : Hid (Byts ((w2.setCell ⟨g, j, none⟩ (.int .u8 q)).drew) g s.size) := hB.out.some.set j q hq0 hq1
      have HF2 : Hid (Fr [] w ((w2.setCell ⟨g, j, none⟩ (.int .u8 q)).drew)) := (hF.out.setCell (.inr (Nat.le_of_eq hg.out.symm)) _).drew
      obtain ⟨l, hl, hcv⟩ := HB2.out.str Try.underlying46 Try.underlying5 Try.underlying9 cap
      have Hl := Lib.hid hl
      clear hl hc hfz hj
      generalize (w2.setCell ⟨g, j, none⟩ (.int .u8 q)).drew = w3 at *
      go_wp2_with fail
      go_ret
      exact ⟨_, rfl, (show l.toArray.size = s.size by rw [List.size_toArray]; exact Hl.out), HF2.out⟩
end Go.Proofs.Ytacdbglocpaeaaa
