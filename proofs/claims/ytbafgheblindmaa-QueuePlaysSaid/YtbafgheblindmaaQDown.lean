/-
  container/heap's down over the queue's items: the contract.
-/
import Derived.Test.YtbafgheblindmaaQUp
namespace Go.Proofs.Ytbafgheblindmaa
open Go.RowKit

def Fell (n q i0 : Nat) (v : Value) (L : List Itm) (last : Int) (w : World) (e : Ending) (w' : World) : Prop :=
  ∃ (i : Nat) (M : List Itm), e = .returned (.bool (decide (i0 < i))) ∧ i0 ≤ i ∧ UpOK n M i ∧ (i0 < i → Heap n M) ∧ Moved n q v L last w M w'

theorem Fell.mk' {n q i0 : Nat} {v : Value} {L : List Itm} {last : Int} {w w' : World} {i : Nat} {M : List Itm} {b : Bool} (hb : b = decide (i0 < i)) (hi : i0 ≤ i) (hd : DownOK n M i) (hp : i0 < i → Leq (at' M ((i - 1) / 2)) (at' M i))
    (hc : ∀ k, 0 < k → k < n → (k - 1) / 2 = i → Leq (at' M i) (at' M k)) (hM : Moved n q v L last w M w') : Fell n q i0 v L last w (.returned (.bool b)) w' :=
  ⟨i, M, by rw [hb], hi, down_end hd hc, fun h => up_end (down_end hd hc) (.inr (not_of_leq (hp h))), hM⟩

set_option maxRecDepth 100000 in
set_option maxHeartbeats 4000000 in
theorem hDown (L : List Itm) (q n i0 : Nat) (v : Value) (last : Int) (w : World) (hB : QB w q v L last) (hn : n ≤ L.length) (hi : i0 < 4096) (hu : DownOK n L i0) (hm : L.length ≤ 4096) :
    Calls Try.prog 33 #[rvQ q, .int .i64 i0, .int .i64 n] w (Fell n q i0 v L last w) := by
  have hs : ∃ (a : Option Addr) (c : Nat), v = .slice a L.length c ∧ (0 < n → ∃ g, a = some ⟨g, 0, none⟩) := by
    rcases hB.its.shape with ⟨rfl, rfl⟩ | ⟨g, c, rfl, hg, hc⟩
    · exact ⟨none, 0, rfl, fun h => by simp at hn; omega⟩
    · exact ⟨_, c, rfl, fun _ => ⟨g, rfl⟩⟩
  obtain ⟨ad, c, rfl, hs⟩ := hs
  have HS := Lib.hid hs
  clear hs
  generalize hLN : L.length = N at *
  have HLN := Lib.hid hLN
  clear hLN
  go_enter Try.func33, Try.ntmps33
  go_wp2
  go_loopw [7, 8, 9, 10] (fun iv _ _ _ wr => ∃ (i : Nat) (M : List Itm), i0 ≤ i ∧ i < 4096 ∧ iv = .int .i64 i ∧ DownOK n M i ∧ (i0 < i → Leq (at' M ((i - 1) / 2)) (at' M i)) ∧ Moved n q (.slice ad N c) L last w M wr) (fun iv _ _ _ _ => 4096 - (intOf iv).toNat)
  case atStart => exact ⟨i0, L, Nat.le_refl _, hi, rfl, hu, fun h => absurd h (Nat.lt_irrefl _), Moved.refl hB⟩
  case round =>
    obtain ⟨i, M, hle, hi, rfl, hd, hp, hM⟩ := hrel
    have HM := Lib.hid hM
    have HD := Lib.hid hd
    have HP := Lib.hid hp
    have HlN : Hid (M.length = N) := by rw [hM.1.length_eq]; exact HLN.out
    have hq := hM.2.2.1.blk.cellAt (i := 0) rfl
    have HI := Lib.hid hM.2.2.1.its
    obtain ⟨a, HA⟩ : ∃ a : Nat, Hid (a = 2 * i + 1) := ⟨_, rfl⟩
    obtain ⟨b, HBb⟩ : ∃ b : Nat, Hid (b = a + 1) := ⟨_, rfl⟩
    have h1 : 2 * (i : Int) + 1 = (a : Int) := by have := HA.out; omega
    have h2 : (a : Int) + 1 = (b : Int) := by have := HBb.out; omega
    have hia : i < a := by have := HA.out; omega
    have hab : a < b := by have := HBb.out; omega
    have hb4 : b < 10000 := by have := HA.out; have := HBb.out; omega
    clear hM hu hB hd hp
    by_cases hn1 : a < n
    · obtain ⟨g, rfl⟩ := HS.out (by omega)
      have hLess := mVal (name := "Less") (F := 80) (by kernel_rfl) q _ _ _ wr hq
      clear hq
      by_cases hn2 : b < n
      · by_cases hx : Bef (at' M b) (at' M a)
        · have hxd : decide (Bef (at' M b) (at' M a)) = true := by simpa using hx
          have HX : Hid (Bef (at' M b) (at' M a)) := hx
          clear hx
          have HMin : Hid (∀ k, 0 < k → k < n → (k - 1) / 2 = i → Leq (at' M b) (at' M k)) := fun k k0 kn kp => by
            have hA := HA.out
            have hB := HBb.out
            rcases (show k = a ∨ k = b by omega) with rfl | rfl
            · exact leq_of_bef HX.out
            · exact Leq.refl _
          by_cases hc : Bef (at' M b) (at' M i)
          · have hcd : decide (Bef (at' M b) (at' M i)) = true := by simpa using hc
            have HC : Hid (Bef (at' M b) (at' M i)) := hc
            clear hc
            go_wp2_with (first
              | (go_at_call 80; (with_reducible refine (iLess' M N g c b a _ HlN.out HI.out (by omega) (by omega) hm).mono ?_); rintro e w1 ⟨rfl, f1⟩; have hLess2 := mVal (name := "Less") (F := 80) (by kernel_rfl) q _ _ _ w1 ((HM.out.stay f1).2.2.1.blk.cellAt (i := 0) rfl))
              | (go_at_call 80; (with_reducible refine (iLess' M N g c b i _ HlN.out (HI.out.fr0 f1) (by omega) (by omega) hm).mono ?_); rintro e w2 ⟨rfl, f2⟩; have hSwap := mVal (name := "Swap") (F := 81) (by kernel_rfl) q _ _ _ w2 (((HM.out.stay f1).stay f2).2.2.1.blk.cellAt (i := 0) rfl))
              | (go_at_call 81; (with_reducible refine (iSwap' M N g c i b _ HlN.out ((HI.out.fr0 f1).fr0 f2) (by omega) (by omega) hm).mono ?_); rintro e w3 ⟨rfl, I3, f3⟩))
            have HN : n ≤ M.length := by have := HlN.out; omega
            have HA2 := HA.out
            have HB2 := HBb.out
            have hpar : (b - 1) / 2 = i := by omega
            have HST := down_step (n := n) (i := i) (j := b) (L := M) HN (by omega) (by omega) hpar HD.out HC.out HMin.out
            have HMV := ((HM.out.stay f1).stay f2).trans (Moved.swap ((HM.out.stay f1).stay f2).2.2.1 I3 f3 (i := i) (k := b) (n := n) (by omega) (by omega) HN)
            clear hpar HA2 HB2
            go_roundw
            case rel => exact ⟨b, swp M i b, by omega, by omega, rfl, HST.1, fun _ => HST.2, HMV⟩
            case measure => simp [intOf]; omega
          · have hcd : decide (Bef (at' M b) (at' M i)) = false := by simpa using hc
            have HC : Hid (¬ Bef (at' M b) (at' M i)) := hc
            clear hc
            go_wp2_with (first
              | (go_at_call 80; (with_reducible refine (iLess' M N g c b a _ HlN.out HI.out (by omega) (by omega) hm).mono ?_); rintro e w1 ⟨rfl, f1⟩; have hLess2 := mVal (name := "Less") (F := 80) (by kernel_rfl) q _ _ _ w1 ((HM.out.stay f1).2.2.1.blk.cellAt (i := 0) rfl))
              | (go_at_call 80; (with_reducible refine (iLess' M N g c b i _ HlN.out (HI.out.fr0 f1) (by omega) (by omega) hm).mono ?_); rintro e w2 ⟨rfl, f2⟩))
            go_ret
            exact Fell.mk' (by simp) hle HD.out HP.out (fun k k0 kn kp => (leq_of_not HC.out).trans (HMin.out k k0 kn kp)) ((HM.out.stay f1).stay f2)
        · have hxd : decide (Bef (at' M b) (at' M a)) = false := by simpa using hx
          have HX : Hid (¬ Bef (at' M b) (at' M a)) := hx
          clear hx
          have HMin : Hid (∀ k, 0 < k → k < n → (k - 1) / 2 = i → Leq (at' M a) (at' M k)) := fun k k0 kn kp => by
            have hA := HA.out
            have hB := HBb.out
            rcases (show k = a ∨ k = b by omega) with rfl | rfl
            · exact Leq.refl _
            · exact leq_of_not HX.out
          by_cases hc : Bef (at' M a) (at' M i)
          · have hcd : decide (Bef (at' M a) (at' M i)) = true := by simpa using hc
            have HC : Hid (Bef (at' M a) (at' M i)) := hc
            clear hc
            go_wp2_with (first
              | (go_at_call 80; (with_reducible refine (iLess' M N g c b a _ HlN.out HI.out (by omega) (by omega) hm).mono ?_); rintro e w1 ⟨rfl, f1⟩; have hLess2 := mVal (name := "Less") (F := 80) (by kernel_rfl) q _ _ _ w1 ((HM.out.stay f1).2.2.1.blk.cellAt (i := 0) rfl))
              | (go_at_call 80; (with_reducible refine (iLess' M N g c a i _ HlN.out (HI.out.fr0 f1) (by omega) (by omega) hm).mono ?_); rintro e w2 ⟨rfl, f2⟩; have hSwap := mVal (name := "Swap") (F := 81) (by kernel_rfl) q _ _ _ w2 (((HM.out.stay f1).stay f2).2.2.1.blk.cellAt (i := 0) rfl))
              | (go_at_call 81; (with_reducible refine (iSwap' M N g c i a _ HlN.out ((HI.out.fr0 f1).fr0 f2) (by omega) (by omega) hm).mono ?_); rintro e w3 ⟨rfl, I3, f3⟩))
            have HN : n ≤ M.length := by have := HlN.out; omega
            have HA2 := HA.out
            have HB2 := HBb.out
            have hpar : (a - 1) / 2 = i := by omega
            have HST := down_step (n := n) (i := i) (j := a) (L := M) HN (by omega) (by omega) hpar HD.out HC.out HMin.out
            have HMV := ((HM.out.stay f1).stay f2).trans (Moved.swap ((HM.out.stay f1).stay f2).2.2.1 I3 f3 (i := i) (k := a) (n := n) (by omega) (by omega) HN)
            clear hpar HA2 HB2
            go_roundw
            case rel => exact ⟨a, swp M i a, by omega, by omega, rfl, HST.1, fun _ => HST.2, HMV⟩
            case measure => simp [intOf]; omega
          · have hcd : decide (Bef (at' M a) (at' M i)) = false := by simpa using hc
            have HC : Hid (¬ Bef (at' M a) (at' M i)) := hc
            clear hc
            go_wp2_with (first
              | (go_at_call 80; (with_reducible refine (iLess' M N g c b a _ HlN.out HI.out (by omega) (by omega) hm).mono ?_); rintro e w1 ⟨rfl, f1⟩; have hLess2 := mVal (name := "Less") (F := 80) (by kernel_rfl) q _ _ _ w1 ((HM.out.stay f1).2.2.1.blk.cellAt (i := 0) rfl))
              | (go_at_call 80; (with_reducible refine (iLess' M N g c a i _ HlN.out (HI.out.fr0 f1) (by omega) (by omega) hm).mono ?_); rintro e w2 ⟨rfl, f2⟩))
            go_ret
            exact Fell.mk' (by simp) hle HD.out HP.out (fun k k0 kn kp => (leq_of_not HC.out).trans (HMin.out k k0 kn kp)) ((HM.out.stay f1).stay f2)
      · skip
        have HMin : Hid (∀ k, 0 < k → k < n → (k - 1) / 2 = i → Leq (at' M a) (at' M k)) := fun k k0 kn kp => by
          have hA := HA.out
          have hB := HBb.out
          obtain rfl : k = a := by omega
          exact Leq.refl _
        by_cases hc : Bef (at' M a) (at' M i)
        · have hcd : decide (Bef (at' M a) (at' M i)) = true := by simpa using hc
          have HC : Hid (Bef (at' M a) (at' M i)) := hc
          clear hc
          go_wp2_with (first
            | (go_at_call 80; (with_reducible refine (iLess' M N g c a i _ HlN.out HI.out (by omega) (by omega) hm).mono ?_); rintro e w1 ⟨rfl, f1⟩; have hSwap := mVal (name := "Swap") (F := 81) (by kernel_rfl) q _ _ _ w1 ((HM.out.stay f1).2.2.1.blk.cellAt (i := 0) rfl))
            | (go_at_call 81; (with_reducible refine (iSwap' M N g c i a _ HlN.out (HI.out.fr0 f1) (by omega) (by omega) hm).mono ?_); rintro e w3 ⟨rfl, I3, f3⟩))
          have HN : n ≤ M.length := by have := HlN.out; omega
          have HA2 := HA.out
          have HB2 := HBb.out
          have hpar : (a - 1) / 2 = i := by omega
          have HST := down_step (n := n) (i := i) (j := a) (L := M) HN (by omega) (by omega) hpar HD.out HC.out HMin.out
          have HMV := (HM.out.stay f1).trans (Moved.swap (HM.out.stay f1).2.2.1 I3 f3 (i := i) (k := a) (n := n) (by omega) (by omega) HN)
          clear hpar HA2 HB2
          go_roundw
          case rel => exact ⟨a, swp M i a, by omega, by omega, rfl, HST.1, fun _ => HST.2, HMV⟩
          case measure => simp [intOf]; omega
        · have hcd : decide (Bef (at' M a) (at' M i)) = false := by simpa using hc
          have HC : Hid (¬ Bef (at' M a) (at' M i)) := hc
          clear hc
          go_wp2_with (first
            | (go_at_call 80; (with_reducible refine (iLess' M N g c a i _ HlN.out HI.out (by omega) (by omega) hm).mono ?_); rintro e w1 ⟨rfl, f1⟩))
          go_ret
          exact Fell.mk' (by simp) hle HD.out HP.out (fun k k0 kn kp => (leq_of_not HC.out).trans (HMin.out k k0 kn kp)) (HM.out.stay f1)
    · go_wp2_with fail
      go_ret
      exact Fell.mk' (by simp) hle HD.out HP.out (fun k k0 kn kp => by have := HA.out; omega) HM.out
end Go.Proofs.Ytbafgheblindmaa
