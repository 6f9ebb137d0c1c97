/-
  container/heap's Pop and Remove over the queue's items: contracts.
-/
import Derived.Test.YtbafgheblindmaaQHp
namespace Go.Proofs.Ytbafgheblindmaa
open Go.RowKit

theorem QB.shape1 {L : List Itm} {q n : Nat} {v : Value} {last : Int} {w : World} (h : QB w q v L last) (hl : L.length = n + 1) : ∃ g c, v = .slice (some ⟨g, 0, none⟩) (n + 1) c := by
  rcases h.its.shape with ⟨rfl, rfl⟩ | ⟨g, c, rfl, _⟩
  · simp at hl
  · exact ⟨g, c, by rw [hl]⟩

/-- What is left when one is taken away. -/
def Took (n q : Nat) (x : Itm) (v : Value) (L : List Itm) (last : Int) (w : World) (e : Ending) (w' : World) : Prop :=
  e = .returned (.iface 31 (.agg x.cells.toArray)) ∧ ∃ v' M, Heap n M ∧ M.Perm L ∧ at' M n = x ∧ QB w' q v' (M.take n) last ∧ Kept q v w v' w'

theorem iPopE (M : List Itm) (x : Itm) (q g n c : Nat) (last : Int) (w : World) (hB : QB w q (.slice (some ⟨g, 0, none⟩) (n + 1) c) M last) (hl : M.length = n + 1) (hm : n + 1 ≤ 4096) (hx : at' M n = x) :
    Calls Try.prog 82 #[.pointer (some ⟨q, 0, none⟩)] w fun e w' => e = .returned (.iface 31 (.agg #[.int .u64 x.time, .int .u64 x.order, .int .i64 x.to, .string x.data])) ∧ ∃ v', QB w' q v' (M.take n) last ∧ Kept q (.slice (some ⟨g, 0, none⟩) (n + 1) c) w v' w' := by
  subst hx
  exact (iPop M q g n c last w hB hl hm).mono fun e w' h => ⟨h.1, _, h.2.1, h.2.2⟩

set_option maxRecDepth 100000 in
set_option maxHeartbeats 1000000 in
theorem hPop (L : List Itm) (q n : Nat) (v : Value) (last : Int) (w : World) (hB : QB w q v L last) (hl : L.length = n + 1) (hh : Heap (n + 1) L) (hm : n + 1 ≤ 4096) :
    Calls Try.prog 21 #[rvQ q] w (Took n q (at' L 0) v L last w) := by
  obtain ⟨g, c, rfl⟩ := hB.shape1 hl
  have hp := mPop q
  have hLen := mVal (name := "Len") (F := 79) (by kernel_rfl) q _ _ _ w (hB.blk.cellAt (i := 0) rfl)
  have hSw := mVal (name := "Swap") (F := 81) (by kernel_rfl) q _ _ _ w (hB.blk.cellAt (i := 0) rfl)
  have HS : Hid (Calls Try.prog 81 #[.slice (some ⟨g, 0, none⟩) (n + 1) c, .int .i64 0, .int .i64 n] w fun e w' => e = .returned (.tuple #[]) ∧ Its w' (.slice (some ⟨g, 0, none⟩) (n + 1) c) (swp L 0 n) ∧ Fr [g] w w') :=
    iSwap' L (n + 1) g c 0 n w hl hB.its (by omega) (by omega) hm
  have HM := Lib.hid (fun (w' : World) (hI : Its w' (.slice (some ⟨g, 0, none⟩) (n + 1) c) (swp L 0 n)) (hF : Fr [g] w w') => Moved.swap (n := n + 1) hB hI hF (i := 0) (k := n) (by omega) (by omega) (by omega))
  have HD : Hid (DownOK n (swp L 0 n) 0) := by
    by_cases h0 : n = 0
    · subst h0; exact ⟨fun k h1 h2 => absurd h2 (by omega), fun h => absurd h (by omega)⟩
    · exact swap_down hl hh (by omega)
  have HA : Hid (at' (swp L 0 n) n = at' L 0) := by rw [at_swp (by omega) (by omega), if_pos rfl]; rfl
  have HL : Hid ((swp L 0 n).length = n + 1) := by rw [swp_length]; exact hl
  clear hB hh
  generalize swp L 0 n = M1 at *
  generalize at' L 0 = x at *
  unfold Took Itm.cells
  go_enter Try.func21, Try.ntmps21
  go_wp2_with (first
    | (go_at_call 79; refine (iLen _ _ _ _).mono ?_; rintro e w2 ⟨rfl, rfl⟩)
    | (go_at_call 81; refine HS.out.mono ?_; rintro e w1 ⟨rfl, I1, f1⟩; (have HMV := Lib.hid (HM.out w1 I1 f1)); clear I1 f1)
    | (go_at_call 33; refine (hDown M1 q n 0 _ last _ HMV.out.2.2.1 (by have := HL.out; omega) (by omega) HD.out (by have := HL.out; omega)).mono ?_; rintro e w3 ⟨i, M, rfl, hi0, hUO, hHp, mv⟩; (have HUO := Lib.hid hUO); (have HHp := Lib.hid hHp); (have HMv := Lib.hid mv); (have HX : Hid (at' M n = x) := (HMv.out.2.1 n (Nat.le_refl _)).trans HA.out); (have HLM : Hid (M.length = n + 1) := by (rw [HMv.out.1.length_eq]; exact HL.out)); clear hUO hHp mv hi0)
    | (go_at_call 82; refine (iPopE M x q g n c last _ HMv.out.2.2.1 HLM.out hm HX.out).mono ?_; rintro e w4 ⟨rfl, v4, B4, k4⟩))
  go_ret
  refine ⟨rfl, v4, M, ?_, HMv.out.1.trans HMV.out.1, HX.out, B4, ((Kept.fr HMV.out.2.2.2).trans (Kept.fr HMv.out.2.2.2)).trans k4⟩
  by_cases h0 : 0 < i
  · exact HHp.out h0
  · obtain rfl : i = 0 := by omega
    exact up_end HUO.out (.inl rfl)

set_option maxRecDepth 100000 in
set_option maxHeartbeats 1000000 in
theorem hRem (L : List Itm) (q n i : Nat) (v : Value) (last : Int) (w : World) (hB : QB w q v L last) (hl : L.length = n + 1) (hh : Heap (n + 1) L) (hi : i < n + 1) (hm : n + 1 ≤ 4096) :
    Calls Try.prog 31 #[rvQ q, .int .i64 i] w (Took n q (at' L i) v L last w) := by
  obtain ⟨g, c, rfl⟩ := hB.shape1 hl
  have hp := mPop q
  have hLen := mVal (name := "Len") (F := 79) (by kernel_rfl) q _ _ _ w (hB.blk.cellAt (i := 0) rfl)
  by_cases e : i = n
  · subst e
    have hne : ((i : Int) != (i : Int)) = false := by simp
    have HB := Lib.hid hB
    have HL := Lib.hid hl
    have HH := Lib.hid (hh.shorter (m := i) (by omega))
    clear hB hh hl
    have HX : ∃ x, Hid (at' L i = x) := ⟨_, rfl⟩
    obtain ⟨x, HX⟩ := HX
    rw [HX.out]
    unfold Took Itm.cells
    go_enter Try.func31, Try.ntmps31
    go_wp2_with (first
      | (go_at_call 79; refine (iLen _ _ _ _).mono ?_; rintro e w2 ⟨rfl, rfl⟩)
      | (go_at_call 82; refine (iPopE L x q g i c last _ HB.out HL.out hm HX.out).mono ?_; rintro e w4 ⟨rfl, v4, B4, k4⟩))
    go_ret
    exact ⟨rfl, v4, L, HH.out, .refl _, HX.out, B4, k4⟩
  · have hin : i < n := by omega
    have hne : ((n : Int) != (i : Int)) = true := by simp; omega
    have hSw := mVal (name := "Swap") (F := 81) (by kernel_rfl) q _ _ _ w (hB.blk.cellAt (i := 0) rfl)
    have HS := Lib.hid (iSwap' L (n + 1) g c i n w hl hB.its hi (by omega) hm)
    have HM := Lib.hid (fun (w' : World) (hI : Its w' (.slice (some ⟨g, 0, none⟩) (n + 1) c) (swp L i n)) (hF : Fr [g] w w') => Moved.swap (n := n + 1) hB hI hF (i := i) (k := n) (by omega) (by omega) (by omega))
    have HD := Lib.hid (swap_down hl hh hin)
    have HA : Hid (at' (swp L i n) n = at' L i) := by rw [at_swp (by omega) (by omega), if_pos rfl]; rfl
    have HL : Hid ((swp L i n).length = n + 1) := by rw [swp_length]; exact hl
    clear hB hh e hl
    generalize swp L i n = M1 at *
    generalize at' L i = x at *
    unfold Took Itm.cells
    go_enter Try.func31, Try.ntmps31
    go_wp2_with (first
      | (go_at_call 79; refine (iLen _ _ _ _).mono ?_; rintro e w2 ⟨rfl, rfl⟩)
      | (go_at_call 81; refine HS.out.mono ?_; rintro e w1 ⟨rfl, I1, f1⟩; (have HMV := Lib.hid (HM.out w1 I1 f1)); clear I1 f1)
      | (go_at_call 33; refine (hDown M1 q n i _ last _ HMV.out.2.2.1 (by have := HL.out; omega) (by omega) HD.out (by have := HL.out; omega)).mono ?_; rintro e w3 ⟨k, M, rfl, hi0, hUO, hHp, mv⟩; (have HUO := Lib.hid hUO); (have HHp := Lib.hid hHp); (have HMv := Lib.hid mv); (have HX : Hid (at' M n = x) := (HMv.out.2.1 n (Nat.le_refl _)).trans HA.out); (have HLM : Hid (M.length = n + 1) := by (rw [HMv.out.1.length_eq]; exact HL.out)); (have HB4 := Lib.hid mv.2.2.1); clear hUO hHp mv)
      | (go_at_call 32; refine (hUp M q n i _ last _ HMv.out.2.2.1 (by have := HLM.out; omega) hin (by have h1 : i = k := (by have := ‹(!decide (i < k)) = true›; simp at this; omega); rw [h1]; exact HUO.out) (by have := HLM.out; omega)).mono ?_; rintro e w5 ⟨rfl, M5, hM5, mv5⟩; (have HM5 := Lib.hid hM5); (have Hmv5 := Lib.hid mv5); (have HX5 : Hid (at' M5 n = x) := (Hmv5.out.2.1 n (Nat.le_refl _)).trans HX.out); (have HB5 := Lib.hid mv5.2.2.1); (have HLM5 : Hid (M5.length = n + 1) := by (rw [Hmv5.out.1.length_eq]; exact HLM.out)); clear hM5 mv5)
      | (go_at_call 82; (with_reducible refine (iPopE M5 x q g n c last _ HB5.out HLM5.out hm HX5.out).mono ?_); rintro e w4 ⟨rfl, v4, B4, k4⟩)
      | (go_at_call 82; (with_reducible refine (iPopE M x q g n c last _ HB4.out HLM.out hm HX.out).mono ?_); rintro e w4 ⟨rfl, v4, B4, k4⟩))
    · go_ret
      exact ⟨rfl, v4, M5, HM5.out, Hmv5.out.1.trans (HMv.out.1.trans HMV.out.1), HX5.out, B4, (((Kept.fr HMV.out.2.2.2).trans (Kept.fr HMv.out.2.2.2)).trans (Kept.fr Hmv5.out.2.2.2)).trans k4⟩
    · go_ret
      refine ⟨rfl, v4, M, HHp.out ?_, HMv.out.1.trans HMV.out.1, HX.out, B4, ((Kept.fr HMV.out.2.2.2).trans (Kept.fr HMv.out.2.2.2)).trans k4⟩
      have := ‹(!decide (i < k)) = false›
      simpa using this
end Go.Proofs.Ytbafgheblindmaa
