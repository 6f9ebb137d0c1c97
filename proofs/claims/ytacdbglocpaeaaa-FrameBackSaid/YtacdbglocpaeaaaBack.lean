/-
  FrameBack: what was packed comes back, from both readers; a proper beginning of it, and it with one byte more, do not. And the row's sentence of it.
-/
import Derived.Test.YtacdbglocpaeaaaRows
import Derived.Test.YtacdbglocpaeaaaFEx2
import Derived.Test.YtacdbglocpaeaaaFLaw3
import Derived.WalkKit
import Derived.ProofKit
import Derived.OpenShut
import Derived.ShutString
import Derived.ChangeOld
import Derived.Below
import Derived.SizedLaws
namespace Go.Proofs.Ytacdbglocpaeaaa.frameBack
open Go.ChangeShapes Go.WideShapes Go.ChangeAt Go.RowKit Go.Proofs.Ytacdbglocpaeaaa
open Go.ChangeMaps (open_string shut_string)

theorem bs_app (a b : List UInt8) : bs a ++ bs b = bs (a ++ b) := by
  apply ByteArray.ext
  show (bs a ++ bs b).data = _
  rw [ByteArray.data_append]
  simp [bs]

theorem facts (v : Int) (hv : v = 1 ∨ v = 2) (l : List UInt8) (hl : l.length ≤ 1000) : ∃ p : ByteArray, 0 < p.size ∧ p.size ≤ 2000 ∧
    (∀ w, Calls Try.prog 9 #[.int .i64 v, .string (bs l)] w fun e w' => e = .returned (.tuple #[.string p, .bool true]) ∧ Fr [] w w') ∧
    (∀ (t : ByteArray) (w : World), t.size ≤ 1407374883513000 → Calls Try.prog 12 #[.string (p ++ t)] w fun e w' => e = .returned (.tuple #[.int .i64 v, .string (bs l), .int .i64 p.size, .bool true]) ∧ Fr [] w w') ∧
    (∀ w, Calls Try.prog 14 #[.string p] w fun e w' => e = .returned (.tuple #[.int .i64 v, .string (bs l), .bool true]) ∧ Fr [] w w') ∧
    (∀ (k : Nat) (w : World), k < p.size → Calls Try.prog 12 #[.string (p.extract 0 k)] w fun e w' => e = .returned (.tuple #[.int .i64 0, .string (bs []), .int .i64 0, .bool false]) ∧ Fr [] w w') ∧
    (∀ w, Calls Try.prog 14 #[.string (p ++ ⟨#[120]⟩)] w fun e w' => e = .returned (.tuple #[.int .i64 0, .string (bs []), .bool false]) ∧ Fr [] w w') := by
  have h4 := packL_four v l
  have hr : packR v l = (packL v l, true) := by rw [packR, if_pos (by omega)]
  have hs := packR_size v l (by omega)
  rw [hr] at hs
  have hs2 : (bs (packL v l)).size ≤ 1015 := by have : (bs (packL v l)).size ≤ l.length + 15 := hs; omega
  have hs3 : (packL v l).length ≤ 1015 := by rwa [bs_size] at hs2
  refine ⟨bs (packL v l), by rw [bs_size]; omega, by omega, ?_, ?_, ?_, ?_, ?_⟩
  · intro w
    have h := fPack v l w (by unfold maxLen; omega)
    rwa [hr] at h
  · intro t w ht
    have hz : (bs (packL v l) ++ t).size ≤ maxLen := by rw [ByteArray.size_append]; unfold maxLen; omega
    have h := fNext (bs (packL v l) ++ t) w hz
    rw [← bs_of t, bs_app, nextS_pack v hv l _ (by omega)] at h
    rw [← bs_of t, bs_app, bs_size]
    exact h
  · intro w
    have h := fUnpack (bs (packL v l)) w (by omega)
    rwa [unpack_pack v hv l (by omega)] at h
  · intro k w hk
    rw [bs_size] at hk
    rw [bs_extract, List.drop_zero]
    have h := fNext (bs ((packL v l).take k)) w (by rw [bs_size, List.length_take]; unfold maxLen; omega)
    rwa [next_short v hv l (by omega) k hk] at h
  · intro w
    rw [show (⟨#[120]⟩ : ByteArray) = bs [120] from rfl, bs_app]
    have h := fUnpack (bs (packL v l ++ [120])) w (by rw [bs_size]; simp; omega)
    rwa [unpack_more v hv l (by omega)] at h

theorem emptyL (p : ByteArray) (h : 0 < p.size) : p.toList.isEmpty = false := by
  rw [Lib.toList_data]
  cases h2 : p.data.toList with
  | nil => exact absurd (show p.data.toList.length = 0 by rw [h2]; rfl) (by show ¬ p.size = 0; omega)
  | cons _ _ => rfl

theorem mn_facts (n : Nat) (m : Int) (h : 0 ≤ m) : 0 ≤ mnI (n : Int) m ∧ mnI (n : Int) m ≤ (n : Int) ∧ mnI (n : Int) m ≤ m := by
  unfold mnI
  split <;> omega

set_option maxRecDepth 100000 in
set_option maxHeartbeats 4000000 in
theorem walk (a0 : Bool) (l1 : List UInt8) (a2 : ByteArray) (a3 : Int) (h1 : (bs l1).size ≤ 140737488351232) (h2 : a2.size ≤ 140737488351232) (w3 : 0 ≤ a3 ∧ a3 ≤ 65535) (w : World) :
    Calls Try.prog 5 #[.bool a0, .string (bs l1), .string a2, .int .u16 a3] w fun e w' => e = .returned (.bool true) ∧ Fr [] w w' := by
  have hl1 : l1.length ≤ 140737488351232 := by rwa [bs_size] at h1
  have hmn := mn_facts (bs l1).size 1000 (by decide)
  have hm2 : 0 ≤ mnI ((bs l1).size : Int) 1000 ∧ mnI ((bs l1).size : Int) 1000 ≤ ((bs l1).size : Int) := ⟨hmn.1, hmn.2.1⟩
  obtain ⟨l, hl, hE⟩ : ∃ l : List UInt8, l.length ≤ 1000 ∧ (bs l1).extract 0 (mnI ((bs l1).size : Int) 1000).toNat = bs l :=
    ⟨(l1.take (mnI ((bs l1).size : Int) 1000).toNat), by rw [List.length_take]; omega, by rw [bs_extract, List.drop_zero]⟩
  cases a0
  all_goals
    go_enter Try.func5, Try.ntmps5
    go_wp2_with fail
    refine (fExamples _).mono ?_
    rintro e w1 ⟨rfl, f1⟩
    go_wp2_with fail
    generalize (bs l1).extract 0 (mnI ((bs l1).size : Int) 1000).toNat = B at *
    subst hE
    clear hm2 hmn
    first
    | obtain ⟨p, hp0, hp1, HP, HN, HU, HC, HX⟩ := facts 1 (.inl rfl) l hl
      with_reducible refine (HP _).mono ?_
    | obtain ⟨p, hp0, hp1, HP, HN, HU, HC, HX⟩ := facts 2 (.inr rfl) l hl
      with_reducible refine (HP _).mono ?_
    clear HP
    replace HN := Lib.hid HN
    replace HU := Lib.hid HU
    replace HC := Lib.hid HC
    replace HX := Lib.hid HX
    rintro e w2 ⟨rfl, f2⟩
    have hpe := emptyL p hp0
    go_wp2_with fail
    refine (HN.out a2 _ (by omega)).mono ?_
    rintro e w3 ⟨rfl, f3⟩
    go_wp2_with fail
    refine (HU.out _).mono ?_
    rintro e w4 ⟨rfl, f4⟩
    have F4 : Hid (Fr [] w w4) := ((f1.trans0 f2).trans0 f3).trans0 f4
    clear f1 f2 f3 f4 HN HU
    have hr0 : 0 ≤ a3 % (p.size : Int) := Int.emod_nonneg _ (by omega)
    have hr1 : a3 % (p.size : Int) < p.size := Int.emod_lt_of_pos _ (by omega)
    have hr : 0 ≤ a3 % (p.size : Int) ∧ a3 % (p.size : Int) ≤ p.size := ⟨hr0, by omega⟩
    have hk : (a3 % (p.size : Int)).toNat < p.size := by omega
    go_wp2_with fail
    refine (HC.out _ _ hk).mono ?_
    rintro e w5 ⟨rfl, f5⟩
    go_wp2_with fail
    refine (HX.out _).mono ?_
    rintro e w6 ⟨rfl, f6⟩
    have F6 : Hid (Fr [] w w6) := (F4.out.trans0 f5).trans0 f6
    clear F4 f5 f6 HC HX hr hr0 hr1 hk
    have q0 : ((bs l).toList == (bs l).toList) = true := by simp
    have q1 : ((p.size : Int) == (p.size : Int)) = true := by simp
    go_wp2_with fail
    go_ret
    exact ⟨rfl, F6.out⟩

/-! ### THE ROW's STEP -/
theorem own : ownKnob Try.prog.godebug = none := by kernel_rfl

set_option maxRecDepth 100000 in
theorem lifted (os : Os) (started : os.Started) (H : Type) (enc : TypeId × Value → H) :
    ReturnsInHanded {} Try.checked os 5 .any (Rows.frameBackSpec.pre6 enc Try.prog Try.f5 Rows.frameBackRow.domain false) (Rows.frameBackSpec.post enc Try.prog Try.f5 false true false false) := by
  refine returnsInHanded_of_change_sized (C := Try.checked) own started (by kernel_rfl) Try.func5
    (ChangeSpec.witness6 (enc := enc) (C := Try.checked) false ⟨#[], #[.bool false, .string ByteArray.empty, .string ByteArray.empty, .int .u16 0], []⟩ 8 (by kernel_rfl) (by kernel_rfl) (by kernel_rfl) (by kernel_rfl)) ?_
  intro W base args ds gs before hval0 hW _ hsz0 _
  have hsz : (DataW.weightsEach Try.prog (Try.f5.params.toList ++ Rows.frameBackSpec.plain.varTypes Try.prog) (ds ++ gs)).all (· ≤ reachBytes) = true := hsz0
  clear hsz0
  have hval : ∀ (j : Nat) t v, Try.f5.params[j]? = some t → args[j]? = some v → Value.okWide Try.prog W .any base t v := hval0
  have hW' := hW
  obtain ⟨p, q, hA0, hV, rfl, _, _⟩ := hW
  have hA : DataW.TrodAll enc Try.prog W 0 (fun _ => true) true Try.f5.params.toList args.toList ds p := hA0
  rw [Try.params5] at hA hval hsz
  obtain ⟨v0, vs0, d0, ds0, p0, q0, hargs, rfl, rfl, h0, r0⟩ := trodAll_cons hA
  obtain ⟨v1, vs1, d1, ds1, p1, q1, rfl, rfl, rfl, h1, r1⟩ := trodAll_cons r0
  obtain ⟨v2, vs2, d2, ds2, p2, q2, rfl, rfl, rfl, h2, r2⟩ := trodAll_cons r1
  obtain ⟨v3, vs3, d3, ds3, p3, q3, rfl, rfl, rfl, h3, r3⟩ := trodAll_cons r2
  obtain ⟨rfl, rfl, rfl⟩ := trodAll_nil r3
  obtain rfl : args = #[v0, v1, v2, v3] := by cases args; simp_all
  obtain ⟨rfl, rfl⟩ := trodVars_none hV
  obtain ⟨a0, rfl, rfl, rfl⟩ := open_bool Try.underlying4 (hval 0 4 v0 rfl rfl) h0
  obtain ⟨a1, rfl, rfl, rfl, w1⟩ := open_string Try.underlying9 (hval 1 9 v1 rfl rfl) h1
  obtain ⟨a2, rfl, rfl, rfl, w2⟩ := open_string Try.underlying9 (hval 2 9 v2 rfl rfl) h2
  obtain ⟨a3, rfl, rfl, rfl, w3⟩ := open_int Try.underlying44 (hval 3 44 v3 rfl rfl) h3
  clear hA0 hval0
  simp only [List.append_nil] at hW'
  have s1 : a1.size ≤ 140737488351232 := by
    have := sized_string hsz (j := 1) (t := 9) rfl rfl
    simpa [reachBytes] using this
  have s2 : a2.size ≤ 140737488351232 := by
    have := sized_string hsz (j := 2) (t := 9) rfl rfl
    simpa [reachBytes] using this
  have b3 := bounds_u16 w3
  have hwalk := walk a0 a1.data.toList a2 a3 (by rwa [bs_of]) s2 b3 W
  simp only [bs_of] at hwalk
  refine hwalk.mono fun e W' ⟨he, fr⟩ => ?_
  subst he
  exact ⟨_, rfl, _, _, _, [], _, [], hW', trodAll_mk1 (shut_bool Try.underlying4 _), (trodAll_cons_mk (shut_bool Try.underlying4 _) (trodAll_cons_mk (shut_string Try.underlying9 w1) (trodAll_cons_mk (shut_string Try.underlying9 w2) (trodAll_cons_mk (shut_int Try.underlying44 w3) trodAll_mk0)))), rfl, fr.below.frame _, fun h => by cases h⟩

theorem over : Rows.frameBackRow.holds Try.pinned (OpenSpec.ofChange Rows.frameBackSpec) :=
  OpenClaim.holds_of_wide 5 Try.f5 rfl rfl rfl rfl rfl rfl rfl ⟨rfl, rfl, rfl, rfl, rfl⟩ rfl rfl rfl rfl rfl (by kernel_rfl) Try.func5 (by kernel_rfl)
    (of_decide_eq_true (by kernel_rfl)) (by unfold Func.isWrapper; first | (rw [if_pos (by decide +kernel)]; kernel_rfl) | (rw [if_neg (by decide +kernel)]; exact ⟨rfl, rfl⟩))
    (fun os started H enc _ => lifted os started H enc)

/-- THE STATEMENT -/
theorem proved : Rows.FrameBackSaid :=
  over
#print axioms proved
end Go.Proofs.Ytacdbglocpaeaaa.frameBack
