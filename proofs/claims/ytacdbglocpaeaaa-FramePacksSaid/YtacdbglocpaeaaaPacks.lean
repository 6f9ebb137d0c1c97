/-
  FramePacks: both packers and both readers answer alike; and the row's sentence of it.
-/
import Derived.Test.YtacdbglocpaeaaaRows
import Derived.Test.YtacdbglocpaeaaaFEx2
import Derived.Test.YtacdbglocpaeaaaFBend
import Derived.Test.YtacdbglocpaeaaaFLaw2
import Derived.WalkKit
import Derived.ProofKit
import Derived.OpenShut
import Derived.ShutString
import Derived.ChangeOld
import Derived.Below
import Derived.SizedLaws
namespace Go.Proofs.Ytacdbglocpaeaaa.framePacks
open Go.ChangeShapes Go.WideShapes Go.ChangeAt Go.RowKit Go.Proofs.Ytacdbglocpaeaaa
open Go.ChangeMaps (open_string shut_string)

theorem packs_both (v : Int) (l : List UInt8) (hl : l.length ≤ 140737488351232) : ∃ (p : ByteArray) (ok : Bool), p.size ≤ 140737488351300 ∧
    (∀ w, Calls Try.prog 9 #[.int .i64 v, .string (bs l)] w fun e w' => e = .returned (.tuple #[.string p, .bool ok]) ∧ Fr [] w w') ∧
    (∀ w, Calls Try.prog 10 #[.int .i64 v, .string (bs l)] w fun e w' => e = .returned (.tuple #[.string p, .bool ok]) ∧ Fr [] w w') :=
  ⟨bs (packR v l).1, (packR v l).2, by have := packR_size v l (by omega); omega, fun w => fPack v l w (by unfold maxLen; omega), fun w => rfPack v l w (by unfold maxLen; omega)⟩

theorem reads_both (s : ByteArray) (hs : s.size ≤ 1407374883513000) : ∃ (v : Int) (b : ByteArray) (k : Int) (ok : Bool) (u : Int) (c : ByteArray) (fit : Bool),
    (∀ w, Calls Try.prog 12 #[.string s] w fun e w' => e = .returned (.tuple #[.int .i64 v, .string b, .int .i64 k, .bool ok]) ∧ Fr [] w w') ∧
    (∀ w, Calls Try.prog 13 #[.string s] w fun e w' => e = .returned (.tuple #[.int .i64 v, .string b, .int .i64 k, .bool ok]) ∧ Fr [] w w') ∧
    (∀ w, Calls Try.prog 14 #[.string s] w fun e w' => e = .returned (.tuple #[.int .i64 u, .string c, .bool fit]) ∧ Fr [] w w') ∧
    (∀ w, Calls Try.prog 15 #[.string s] w fun e w' => e = .returned (.tuple #[.int .i64 u, .string c, .bool fit]) ∧ Fr [] w w') := by
  refine ⟨(nextS s).1, (nextS s).2.1, (nextS s).2.2.1, (nextS s).2.2.2, (unpackOf (nextS s) s.size).1, (unpackOf (nextS s) s.size).2.1, (unpackOf (nextS s) s.size).2.2, ?_, ?_, ?_, ?_⟩
  · exact fun w => fNext s w (by unfold maxLen; omega)
  · intro w; have h := rfNext s w (by omega); rwa [nextQ_eq] at h
  · exact fun w => fUnpack s w (by omega)
  · intro w; have h := rfUnpack s w (by omega); rwa [nextQ_eq] at h

set_option maxRecDepth 100000 in
set_option maxHeartbeats 4000000 in
theorem walk (a0 : Int) (a1 : Bool) (l2 : List UInt8) (a3 : ByteArray) (a4 : Bool) (a5 : Int) (a6 : Int) (h2 : (bs l2).size ≤ 140737488351232) (h3 : a3.size ≤ 140737488351232) (w5 : -9223372036854775808 ≤ a5 ∧ a5 ≤ 9223372036854775807) (w : World) :
    Calls Try.prog 3 #[.int .i64 a0, .bool a1, .string (bs l2), .string a3, .bool a4, .int .i64 a5, .int .u8 a6] w fun e w' => e = .returned (.bool true) ∧ Fr [] w w' := by
  have HB := Lib.hid fBend
  have hl2 : l2.length ≤ 140737488351232 := by rwa [bs_size] at h2
  cases a1 <;> cases a4
  all_goals
    go_enter Try.func3, Try.ntmps3
    go_wp2_with fail
    refine (fExamples _).mono ?_
    rintro e w1 ⟨rfl, f1⟩
    go_wp2_with fail
    first
    | obtain ⟨p, pk, hp, HP, HQ⟩ := packs_both a0 l2 hl2
      with_reducible refine (HP _).mono ?_
    | obtain ⟨p, pk, hp, HP, HQ⟩ := packs_both (wrap64 (1 + wrap64 ((IntKind.u64.wrap a0).tmod 2))) l2 hl2
      refine (HP _).mono ?_
    clear HP
    have HQ := Lib.hid HQ
    rintro e w2 ⟨rfl, f2⟩
    go_wp2_with fail
    refine (HQ.out _).mono ?_
    rintro e w3 ⟨rfl, f3⟩
    have F3 : Hid (Fr [] w w3) := (f1.trans0 f2).trans0 f3
    clear f1 f2 f3 HQ
    go_wp2_with fail
    first
    | obtain ⟨v, b, k, ok, u, c, fit, HN, HM, HU, HV⟩ := reads_both a3 (by omega)
      with_reducible refine (HN _).mono ?_
      have F4 : Hid (Fr [] w w3) := F3
      generalize w3 = w4 at *
    | refine (HB.out p a5 a6 _ (by unfold maxLen; omega) w5.1 w5.2).mono ?_
      rintro e w4 ⟨t, rfl, ht, f4⟩
      have F4 : Hid (Fr [] w w4) := F3.out.trans0 f4
      clear f4
      have hta : (t ++ a3).size = t.size + a3.size := ByteArray.size_append
      go_wp2_with fail
      obtain ⟨v, b, k, ok, u, c, fit, HN, HM, HU, HV⟩ := reads_both (t ++ a3) (by omega)
      refine (HN _).mono ?_
    clear HN F3
    have HM := Lib.hid HM
    have HU := Lib.hid HU
    have HV := Lib.hid HV
    rintro e w5 ⟨rfl, f5⟩
    go_wp2_with fail
    refine (HM.out _).mono ?_
    rintro e w6 ⟨rfl, f6⟩
    go_wp2_with fail
    refine (HU.out _).mono ?_
    rintro e w7 ⟨rfl, f7⟩
    go_wp2_with fail
    refine (HV.out _).mono ?_
    rintro e w8 ⟨rfl, f8⟩
    have F8 : Hid (Fr [] w w8) := (((F4.out.trans0 f5).trans0 f6).trans0 f7).trans0 f8
    clear F4 f5 f6 f7 f8 HM HU HV
    have q0 : (p.toList == p.toList) = true := by simp
    have q1 : (pk == pk) = true := by simp
    have q2 : (v == v) = true := by simp
    have q3 : (b.toList == b.toList) = true := by simp
    have q4 : (k == k) = true := by simp
    have q5 : (ok == ok) = true := by simp
    have q6 : (u == u) = true := by simp
    have q7 : (c.toList == c.toList) = true := by simp
    have q8 : (fit == fit) = true := by simp
    go_wp2_with fail
    go_ret
    exact ⟨rfl, F8.out⟩

/-! ### THE ROW's STEP -/
theorem own : ownKnob Try.prog.godebug = none := by kernel_rfl
theorem laidOut : laidOutB Try.prog = true := by kernel_rfl

set_option maxRecDepth 100000 in
theorem lifted (os : Os) (started : os.Started) (H : Type) (enc : TypeId × Value → H) :
    ReturnsInHanded {} Try.checked os 3 .any (Rows.framePacksSpec.pre6 enc Try.prog Try.f3 Rows.framePacksRow.domain false) (Rows.framePacksSpec.post enc Try.prog Try.f3 false true false false) := by
  refine returnsInHanded_of_change_sized (C := Try.checked) own started (by kernel_rfl) Try.func3
    (ChangeSpec.witness6 (enc := enc) (C := Try.checked) false ⟨#[], #[.int .i64 0, .bool false, .string ByteArray.empty, .string ByteArray.empty, .bool false, .int .i64 0, .int .u8 0], []⟩ 8 (by kernel_rfl) (by kernel_rfl) (by kernel_rfl) (by kernel_rfl)) ?_
  intro W base args ds gs before hval0 hW _ hsz0 _
  have hsz : (DataW.weightsEach Try.prog (Try.f3.params.toList ++ Rows.framePacksSpec.plain.varTypes Try.prog) (ds ++ gs)).all (· ≤ reachBytes) = true := hsz0
  clear hsz0
  have hval : ∀ (j : Nat) t v, Try.f3.params[j]? = some t → args[j]? = some v → Value.okWide Try.prog W .any base t v := hval0
  have hW' := hW
  obtain ⟨p, q, hA0, hV, rfl, _, _⟩ := hW
  have hA : DataW.TrodAll enc Try.prog W 0 (fun _ => true) true Try.f3.params.toList args.toList ds p := hA0
  rw [Try.params3] at hA hval hsz
  obtain ⟨v0, vs0, d0, ds0, p0, q0, hargs, rfl, rfl, h0, r0⟩ := trodAll_cons hA
  obtain ⟨v1, vs1, d1, ds1, p1, q1, rfl, rfl, rfl, h1, r1⟩ := trodAll_cons r0
  obtain ⟨v2, vs2, d2, ds2, p2, q2, rfl, rfl, rfl, h2, r2⟩ := trodAll_cons r1
  obtain ⟨v3, vs3, d3, ds3, p3, q3, rfl, rfl, rfl, h3, r3⟩ := trodAll_cons r2
  obtain ⟨v4, vs4, d4, ds4, p4, q4, rfl, rfl, rfl, h4, r4⟩ := trodAll_cons r3
  obtain ⟨v5, vs5, d5, ds5, p5, q5, rfl, rfl, rfl, h5, r5⟩ := trodAll_cons r4
  obtain ⟨v6, vs6, d6, ds6, p6, q6, rfl, rfl, rfl, h6, r6⟩ := trodAll_cons r5
  obtain ⟨rfl, rfl, rfl⟩ := trodAll_nil r6
  obtain rfl : args = #[v0, v1, v2, v3, v4, v5, v6] := by cases args; simp_all
  obtain ⟨rfl, rfl⟩ := trodVars_none hV
  obtain ⟨a0, rfl, rfl, rfl, w0⟩ := open_int Try.underlying3 (hval 0 3 v0 rfl rfl) h0
  obtain ⟨a1, rfl, rfl, rfl⟩ := open_bool Try.underlying4 (hval 1 4 v1 rfl rfl) h1
  obtain ⟨a2, rfl, rfl, rfl, w2⟩ := open_string Try.underlying9 (hval 2 9 v2 rfl rfl) h2
  obtain ⟨a3, rfl, rfl, rfl, w3⟩ := open_string Try.underlying9 (hval 3 9 v3 rfl rfl) h3
  obtain ⟨a4, rfl, rfl, rfl⟩ := open_bool Try.underlying4 (hval 4 4 v4 rfl rfl) h4
  obtain ⟨a5, rfl, rfl, rfl, w5⟩ := open_int Try.underlying3 (hval 5 3 v5 rfl rfl) h5
  obtain ⟨a6, rfl, rfl, rfl, w6⟩ := open_int Try.underlying5 (hval 6 5 v6 rfl rfl) h6
  clear hA0 hval0
  simp only [List.append_nil] at hW'
  have r2 : a2.size ≤ 140737488351232 := by
    have := sized_string hsz (j := 2) (t := 9) rfl rfl
    simpa [reachBytes] using this
  have r3 : a3.size ≤ 140737488351232 := by
    have := sized_string hsz (j := 3) (t := 9) rfl rfl
    simpa [reachBytes] using this
  have hwalk := walk a0 a1 a2.data.toList a3 a4 a5 a6 (by rwa [bs_of]) r3 (bounds_i64 w5) W
  rw [bs_of] at hwalk
  refine hwalk.mono fun e W' ⟨he, fr⟩ => ?_
  subst he
  exact ⟨_, rfl, _, _, _, [], _, [], hW', trodAll_mk1 (shut_bool Try.underlying4 _), (trodAll_cons_mk (shut_int Try.underlying3 w0) (trodAll_cons_mk (shut_bool Try.underlying4 _) (trodAll_cons_mk (shut_string Try.underlying9 w2) (trodAll_cons_mk (shut_string Try.underlying9 w3) (trodAll_cons_mk (shut_bool Try.underlying4 _) (trodAll_cons_mk (shut_int Try.underlying3 w5) (trodAll_cons_mk (shut_int Try.underlying5 w6) trodAll_mk0))))))), rfl, fr.below.frame _, fun h => by cases h⟩

theorem over : Rows.framePacksRow.holds Try.pinned (OpenSpec.ofChange Rows.framePacksSpec) :=
  OpenClaim.holds_of_wide 3 Try.f3 rfl rfl rfl rfl rfl rfl rfl ⟨rfl, rfl, rfl, rfl, rfl⟩ rfl rfl rfl rfl rfl (by kernel_rfl) Try.func3 (by kernel_rfl)
    (of_decide_eq_true (by kernel_rfl)) (by unfold Func.isWrapper; first | (rw [if_pos (by decide +kernel)]; kernel_rfl) | (rw [if_neg (by decide +kernel)]; exact ⟨rfl, rfl⟩))
    (fun os started H enc _ => lifted os started H enc)

/-- THE STATEMENT -/
theorem proved : Rows.FramePacksSaid :=
  over
#print axioms proved
end Go.Proofs.Ytacdbglocpaeaaa.framePacks
