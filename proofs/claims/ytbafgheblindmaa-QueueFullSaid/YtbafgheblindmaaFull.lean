/-
  QueueFull: there is room for 4096 items and for no more; popped there is room again. And the row's sentence of it.
-/
import Derived.Test.YtbafgheblindmaaRows
import Derived.Test.YtbafgheblindmaaQEx
import Derived.WalkKit
import Derived.ProofKit
import Derived.OpenShut
import Derived.ShutString
import Derived.ChangeOld
import Derived.Below
import Derived.SizedLaws
import Derived.RegionTactic
import Derived.BigRegion
import Derived.IntWalk
namespace Go.Proofs.Ytbafgheblindmaa.queueFull
open Go.ChangeShapes Go.WideShapes Go.ChangeAt Go.RowKit Go.Proofs.Ytbafgheblindmaa
open Go.ChangeMaps (open_string shut_string)

def z0 : Itm := ⟨0, 1, 0, ⟨#[]⟩⟩

/-- What is known of the items behind k rounds. -/
def Fills (k : Nat) (S : List Itm) : Prop := S.length = k ∧ (∀ x, x ∈ S → 0 ≤ x.time) ∧ (0 < k → z0 ∈ S)

theorem Fills.step {k : Nat} {S : List Itm} (h : Fills k S) (t : Int) (ht : 0 ≤ t) (h0 : k = 0 → t = 0) : Fills (k + 1) (ins ⟨t, (k : Int) + 1, k, ⟨#[]⟩⟩ S) := by
  have hp := ins_perm ⟨t, (k : Int) + 1, k, ⟨#[]⟩⟩ S
  refine ⟨by rw [hp.length_eq, List.length_cons, h.1], fun x hx => ?_, fun _ => hp.mem_iff.2 ?_⟩
  · rcases List.mem_cons.1 (hp.mem_iff.1 hx) with rfl | hx
    · exact ht
    · exact h.2.1 x hx
  · by_cases e : k = 0
    · subst e; rw [h0 rfl]; simp [z0]
    · simp [h.2.2 (by omega)]

/-- The first one is the one that was added first. -/
theorem head_z0 {w : World} {q : Nat} {v : Value} {S : List Itm} {last : Int} {k : Nat} (h : QS w q v S last) (hf : Fills k S) (hk : 0 < k) : ∃ S', S = z0 :: S' ∧ S'.length + 1 = k := by
  obtain ⟨L, hB, hO⟩ := h
  have hm := hf.2.2 hk
  cases S with
  | nil => cases hm
  | cons s S =>
    have hl := hf.1
    refine ⟨S, ?_, by simpa using hl⟩
    rcases List.mem_cons.1 hm with e | hm
    · rw [e]
    · have hb := hO.sorted.rel hm
      have h1 := hf.2.1 s (by simp)
      have h2 := hO.bound s (by simp)
      unfold Bef z0 at hb
      dsimp only at hb
      omega

theorem popZ0 (w0 : World) (q : Nat) (v : Value) (S : List Itm) (last : Int) (w : World) (h : QW w0 w q v (z0 :: S) last) :
    Calls Try.prog 11 #[.pointer (some ⟨q, 0, none⟩)] w fun e w' => e = .returned (.tuple #[.agg #[.int .u64 0, .int .u64 1, .int .i64 0, .string ⟨#[]⟩], .bool true]) ∧ ∃ v', Hid (QW w0 w' q v' S last) ∧ Hid (Kept q v w v' w') := wPop w0 q v z0 S last w h

theorem ins_len4 (x : Itm) (S : List Itm) (h : S.length + 1 = 4096) : (ins x S).length = 4096 := by
  rw [(ins_perm x S).length_eq, List.length_cons]; exact h

set_option maxRecDepth 100000 in
set_option maxHeartbeats 4000000 in
theorem walk (a : Int) (ha : 0 ≤ a ∧ a ≤ 255) (w : World) : Calls Try.prog 4 #[.int .u8 a] w fun e w' => e = .returned (.bool true) ∧ Fr [] w w' := by
  obtain ⟨ha0, ha1⟩ := ha
  go_enter Try.func4, Try.ntmps4
  go_wp2_with fail
  refine (fExamples w).mono ?_
  rintro e w1 ⟨rfl, f1⟩
  go_wp2_with fail
  refine (wNew w1).mono ?_
  rintro e w2 ⟨q, rfl, H2⟩
  go_wp2_with fail
  go_loopw [5, 6, 7] (fun i _ _ wr => ∃ (k : Nat) (v : Value) (S : List Itm), k ≤ 4096 ∧ i = .int .i64 k ∧ Hid (QW w1 wr q v S k) ∧ Hid (Fills k S)) (fun i _ _ _ => 4096 - (intOf i).toNat)
  case atStart => exact ⟨0, _, [], by omega, rfl, H2, rfl, fun x hx => absurd hx (by simp), fun h => absurd h (by omega)⟩
  case round =>
    obtain ⟨k, v, S, hk, rfl, HQ, HS⟩ := hrel
    by_cases hlt : k < 4096
    · have hm : 0 ≤ (k : Int) % 7 ∧ (k : Int) % 7 ≤ 6 := by omega
      have hst := Lib.hid (HS.out.step ((k : Int) % 7) hm.1 (fun h => by subst h; rfl))
      have HT : ∃ t, Hid ((k : Int) % 7 = t) := ⟨_, rfl⟩
      go_wp2_with fail
      refine (wAdd w1 q v S _ k (k + 1) _ k ⟨#[]⟩ _ HQ.out (by have := HS.out.1; omega) (by omega) rfl rfl).mono ?_
      rintro e w3 ⟨rfl, v3, H3, -⟩
      go_wp2_with fail
      go_roundw
      case rel => exact ⟨k + 1, v3, _, by omega, by go_num, by simpa using H3, hst⟩
      case measure => simp [intOf]; omega
    · have HK : Hid (k = 4096) := by show k = 4096; omega
      have HL : Hid (S.length = 4096) := HS.out.1.trans HK.out
      go_wp2_with fail
      go_loopw [8, 9, 10, 11, 12] (fun i _ _ _ _ wr => ∃ j : Nat, j ≤ 9 ∧ i = .int .i64 j ∧ Hid (QW w1 wr q v S k)) (fun i _ _ _ _ _ => 10 - (intOf i).toNat)
      case atStart => exact ⟨0, by omega, rfl, HQ⟩
      case round =>
        obtain ⟨j, hj, rfl, H⟩ := hrel
        have hm : 0 ≤ a % 10 ∧ a % 10 ≤ 9 := by omega
        by_cases hlt2 : (j : Int) < a % 10
        · go_wp2_with fail
          refine (wAddFull w1 q v S _ 0 0 ⟨#[]⟩ _ H.out HL.out).mono ?_
          rintro e w4 ⟨rfl, rfl⟩
          go_wp2_with fail
          refine (wDoubleNo w1 q v S _ 1 0 _ H.out (.inr HL.out)).mono ?_
          rintro e w5 ⟨rfl, H5, -⟩
          go_wp2_with fail
          go_roundw
          case rel => exact ⟨j + 1, by omega, by go_num, H5⟩
          case measure => simp [intOf]; omega
        · have hz := head_z0 H.out.qs HS.out (by have := HK.out; omega)
          obtain ⟨S', rfl, hl'⟩ := hz
          have HL' := Lib.hid hl'
          clear hl'
          go_wp2_with fail
          refine (popZ0 w1 q v S' _ _ H.out).mono ?_
          rintro e w5 ⟨rfl, v5, H5, -⟩
          go_wp2_with fail
          have BX := Lib.hid (Blk.new w5 #[.int .u64 0, .int .u64 1, .int .i64 0, .string ⟨#[]⟩] 31)
          have AX := Lib.hid (H5.out.qs.away (w' := w5.alloc (.cells #[.int .u64 0, .int .u64 1, .int .i64 0, .string ⟨#[]⟩] 31)) (Nat.le_refl _) (by simp))
          have hl4 : S'.length < 4096 := by have := HL'.out; have := HK.out; omega
          refine (wAdd w1 q v5 S' _ k 4097 0 0 ⟨#[]⟩ _ (H5.out.fr0 ((Fr.refl _ _).alloc _)) hl4 (by omega) (by have := HK.out; omega) rfl).mono ?_
          rintro e w6 ⟨rfl, v6, H6, K6⟩
          have BX6 := AX.out.blk BX.out K6.out
          have c0 : w6.cell? ⟨w5.heap.size, 0, none⟩ = some (.int .u64 0) := BX6.cellAt (i := 0) rfl
          have c1 : w6.cell? ⟨w5.heap.size, 1, none⟩ = some (.int .u64 1) := BX6.cellAt (i := 1) rfl
          clear BX BX6 AX
          have HLn := Lib.hid (ins_len4 ⟨0, 4097, 0, ⟨#[]⟩⟩ S' (HL'.out.trans HK.out))
          go_wp2_with fail
          refine (wLen w1 q v6 _ 4096 _ _ H6.out HLn.out).mono ?_
          rintro e w7 ⟨rfl, rfl⟩
          go_wp2_with fail
          go_ret
          exact ⟨rfl, f1.trans0 H6.out.fr⟩

/-! ### THE ROW's STEP -/
theorem own : ownKnob Try.prog.godebug = none := by kernel_rfl

set_option maxRecDepth 100000 in
theorem lifted (os : Os) (started : os.Started) (H : Type) (enc : TypeId × Value → H) :
    ReturnsInHanded {} Try.checked os 4 .any (Rows.queueFullSpec.pre6 enc Try.prog Try.f4 Rows.queueFullRow.domain false) (Rows.queueFullSpec.post enc Try.prog Try.f4 false true false false) := by
  refine returnsInHanded_of_change_sized (C := Try.checked) own started (by kernel_rfl) Try.func4
    (ChangeSpec.witness6 (enc := enc) (C := Try.checked) false ⟨#[], #[.int .u8 0], []⟩ 8 (by kernel_rfl) (by kernel_rfl) (by kernel_rfl) (by kernel_rfl)) ?_
  intro W base args ds gs before hval0 hW _ hsz0 _
  have hsz : (DataW.weightsEach Try.prog (Try.f4.params.toList ++ Rows.queueFullSpec.plain.varTypes Try.prog) (ds ++ gs)).all (· ≤ reachBytes) = true := hsz0
  clear hsz0
  have hval : ∀ (j : Nat) t v, Try.f4.params[j]? = some t → args[j]? = some v → Value.okWide Try.prog W .any base t v := hval0
  have hW' := hW
  obtain ⟨p, q, hA0, hV, rfl, _, _⟩ := hW
  have hA : DataW.TrodAll enc Try.prog W 0 (fun _ => true) true Try.f4.params.toList args.toList ds p := hA0
  rw [Try.params4] at hA hval hsz
  obtain ⟨v0, vs0, d0, ds0, p0, q0, hargs, rfl, rfl, h0, r0⟩ := trodAll_cons hA
  obtain ⟨rfl, rfl, rfl⟩ := trodAll_nil r0
  obtain rfl : args = #[v0] := by cases args; simp_all
  obtain ⟨rfl, rfl⟩ := trodVars_none hV
  obtain ⟨a0, rfl, rfl, rfl, w0⟩ := open_int Try.underlying5 (hval 0 5 v0 rfl rfl) h0
  clear hA0 hval0
  simp only [List.append_nil] at hW'
  have b0 := bounds_u8 w0
  have hwalk := walk a0 b0 W
  refine hwalk.mono fun e W' ⟨he, fr⟩ => ?_
  subst he
  exact ⟨_, rfl, _, _, _, [], _, [], hW', trodAll_mk1 (shut_bool Try.underlying4 _), (trodAll_cons_mk (shut_int Try.underlying5 w0) trodAll_mk0), rfl, fr.below.frame _, fun h => by cases h⟩

theorem over : Rows.queueFullRow.holds Try.pinned (OpenSpec.ofChange Rows.queueFullSpec) :=
  OpenClaim.holds_of_wide 4 Try.f4 rfl rfl rfl rfl rfl rfl rfl ⟨rfl, rfl, rfl, rfl, rfl⟩ rfl rfl rfl rfl rfl (by kernel_rfl) Try.func4 (by kernel_rfl)
    (of_decide_eq_true (by kernel_rfl)) (by unfold Func.isWrapper; first | (rw [if_pos (by decide +kernel)]; kernel_rfl) | (rw [if_neg (by decide +kernel)]; exact ⟨rfl, rfl⟩))
    (fun os started H enc _ => lifted os started H enc)

/-- THE STATEMENT -/
theorem proved : Rows.QueueFullSaid :=
  over
#print axioms proved
end Go.Proofs.Ytbafgheblindmaa.queueFull
