/-
  FrameNext: packed texts that stand one behind the other are told one by one, and where each ends. And the row's sentence of it.
-/
import Derived.Test.YtacdbglocpaeaaaRows
import Derived.Test.YtacdbglocpaeaaaFEx2
import Derived.Test.YtacdbglocpaeaaaFLaw3
import Derived.WalkKit
import Derived.ProofKit
import Derived.OpenShut
import Derived.ShutString
import Derived.SliceStrings
import Derived.ChangeOld
import Derived.Below
import Derived.SizedLaws
import Derived.RegionTactic
import Derived.BigRegion
import Derived.IntWalk
namespace Go.Proofs.Ytacdbglocpaeaaa.frameNext
open Go.ChangeShapes Go.WideShapes Go.ChangeAt Go.RowKit Go.Proofs.Ytacdbglocpaeaaa
open Go.ChangeMaps (open_string shut_string)

theorem mn_facts (n : Nat) (m : Int) (h : 0 ≤ m) : 0 ≤ mnI (n : Int) m ∧ mnI (n : Int) m ≤ (n : Int) ∧ mnI (n : Int) m ≤ m := by
  unfold mnI
  split <;> omega

/-- The texts of k places from i on, one behind the other. -/
def cat (f : Nat → List UInt8) : Nat → Nat → List UInt8
  | _, 0 => []
  | i, k + 1 => f i ++ cat f (i + 1) k

theorem cat_last (f : Nat → List UInt8) (k : Nat) : ∀ i, cat f i (k + 1) = cat f i k ++ f (i + k) := by
  induction k with
  | zero => intro i; simp [cat]
  | succ k ih =>
    intro i
    rw [cat, ih (i + 1), cat, List.append_assoc]
    congr 3
    omega

theorem cat_length (f : Nat → List UInt8) (m : Nat) (hf : ∀ i, (f i).length ≤ m) (k : Nat) : ∀ i, (cat f i k).length ≤ m * k := by
  induction k with
  | zero => intro i; simp [cat]
  | succ k ih =>
    intro i
    have := ih (i + 1)
    have := hf i
    rw [cat, List.length_append, Nat.mul_succ]
    omega

theorem cell_keep {w w' : World} {a : Addr} {v : Value} (h : Fr [] w w') (hc : w.cell? a = some v) : w'.cell? a = some v := by
  have hb : a.block < w.heap.size := by
    unfold World.cell? at hc
    rcases Nat.lt_or_ge a.block w.heap.size with h1 | h1
    · exact h1
    · rw [Array.getElem?_eq_none h1] at hc; simp at hc
  exact (World.cell?_of_block (w := w) (h.block _ hb (by simp))).trans hc

theorem bs_app (a b : List UInt8) : bs a ++ bs b = bs (a ++ b) := by
  apply ByteArray.ext
  show (bs a ++ bs b).data = _
  rw [ByteArray.data_append]
  simp [bs]

/-- The version and the body of place k, as the text reckons them; and what they are packed to. -/
def ver (a1 : Int) (k : Nat) : Int := IntKind.i64.wrap (1 + IntKind.i64.wrap ((a1 / 2 ^ k).tmod 2))
def body (ss : List ByteArray) (k : Nat) : ByteArray := (ss.getD k ByteArray.empty).extract 0 (mnI ((ss.getD k ByteArray.empty).size : Int) 60).toNat
def packed (a1 : Int) (ss : List ByteArray) (k : Nat) : List UInt8 := packL (ver a1 k) (body ss k).data.toList

theorem ver_two (a1 : Int) (h : 0 ≤ a1) (k : Nat) : ver a1 k = 1 ∨ ver a1 k = 2 := by
  have h0 : 0 ≤ a1 / 2 ^ k := Int.ediv_nonneg h (by have : (0 : Int) < 2 ^ k := Int.pow_pos (by decide); omega)
  unfold ver
  generalize a1 / 2 ^ k = q at *
  rw [Int.tmod_eq_emod_of_nonneg h0]
  rcases (show q % 2 = 0 ∨ q % 2 = 1 by omega) with e | e <;> rw [e]
  · left; decide
  · right; decide

theorem body_size (ss : List ByteArray) (k : Nat) : (body ss k).data.toList.length ≤ 60 := by
  have h := mn_facts (ss.getD k ByteArray.empty).size 60 (by decide)
  show (body ss k).size ≤ 60
  unfold body
  rw [ByteArray.size_extract]
  omega

theorem packed_len (a1 : Int) (h : 0 ≤ a1) (ss : List ByteArray) (k : Nat) : 4 ≤ (packed a1 ss k).length ∧ (packed a1 ss k).length ≤ 75 := by
  have h1 := body_size ss k
  have h2 := packR_size (ver a1 k) (body ss k).data.toList (by omega)
  have h3 := ver_two a1 h k
  rw [packR, if_pos (by omega)] at h2
  rw [bs_size] at h2
  dsimp only at h2
  exact ⟨packL_four _ _, by unfold packed; omega⟩

theorem pack_fact (a1 : Int) (h : 0 ≤ a1) (ss : List ByteArray) (k : Nat) (w : World) :
    Calls Try.prog 9 #[.int .i64 (ver a1 k), .string (body ss k)] w fun e w' => e = .returned (.tuple #[.string (bs (packed a1 ss k)), .bool true]) ∧ Fr [] w w' := by
  have h1 := body_size ss k
  have h3 := ver_two a1 h k
  have hp := fPack (ver a1 k) (body ss k).data.toList w (by unfold maxLen; omega)
  rwa [packR, if_pos (by omega), bs_of] at hp

theorem next_fact (a1 : Int) (h : 0 ≤ a1) (ss : List ByteArray) (k : Nat) (t : List UInt8) (ht : t.length ≤ 10000) (w : World) :
    Calls Try.prog 12 #[.string (bs (packed a1 ss k ++ t))] w fun e w' => e = .returned (.tuple #[.int .i64 (ver a1 k), .string (body ss k), .int .i64 (packed a1 ss k).length, .bool true]) ∧ Fr [] w w' := by
  have h1 := body_size ss k
  have h2 := packed_len a1 h ss k
  have hp := fNext (bs (packed a1 ss k ++ t)) w (by rw [bs_size, List.length_append]; unfold maxLen; omega)
  have hq := nextS_pack (ver a1 k) (ver_two a1 h k) (body ss k).data.toList t (by omega)
  unfold packed at hp ⊢
  rwa [hq, bs_of] at hp

theorem none_fact (w : World) :
    Calls Try.prog 12 #[.string (bs [])] w fun e w' => e = .returned (.tuple #[.int .i64 0, .string (bs []), .int .i64 0, .bool false]) ∧ Fr [] w w' := by
  have hp := fNext (bs []) w (by decide)
  have hn : nextS (bs []) = (0, bs [], 0, false) := by decide +kernel
  rwa [hn] at hp

set_option maxRecDepth 100000 in
set_option maxHeartbeats 4000000 in
theorem walk (x : Addr) (len cap : Nat) (ss : List ByteArray) (a1 : Int) (ha : 0 ≤ a1 ∧ a1 ≤ 255) (w : World) (hl : len ≤ ss.length) (hlc : len ≤ cap)
    (hcell : ∀ i, i < ss.length → w.cell? (x.add i) = some (.string (ss.getD i ByteArray.empty))) :
    Calls Try.prog 7 #[.slice (some x) len cap, .int .u8 a1] w fun e w' => e = .returned (.bool true) ∧ Fr [] w w' := by
  have hmn := mn_facts len 6 (by decide)
  have hm2 : 0 ≤ mnI (len : Int) 6 ∧ mnI (len : Int) 6 ≤ (cap : Int) := ⟨hmn.1, by omega⟩
  obtain ⟨n, hn⟩ : ∃ n : Nat, mnI (len : Int) 6 = n := ⟨(mnI (len : Int) 6).toNat, by omega⟩
  go_enter Try.func7, Try.ntmps7
  go_wp2_with fail
  refine (fExamples _).mono ?_
  rintro e w1 ⟨rfl, f1⟩
  go_wp2_with fail
  clear hm2
  have F1 : Hid (Fr [] w w1) := f1
  clear f1
  have hn6 : n ≤ 6 := by omega
  have hnl : n ≤ len := by omega
  have HC := Lib.hid hcell
  clear hcell hmn
  go_loopw [6, 7, 8, 9] (fun s i _ _ wr => ∃ k : Nat, k ≤ n ∧ i = .int .i64 k ∧ s = .string (bs (cat (packed a1 ss) 0 k)) ∧ Hid (Fr [] w wr)) (fun _ i _ _ _ => n - (intOf i).toNat)
  case atStart => exact ⟨0, by omega, rfl, rfl, F1⟩
  case round =>
    obtain ⟨k, hk, rfl, rfl, HF⟩ := hrel
    by_cases hlt : k < n
    · have hcc := cell_keep HF.out (HC.out k (by omega))
      have hk1 : (k : Int) < (n : Int) := by omega
      have HP := pack_fact a1 ha.1 ss k
      have hpl := (packed_len a1 ha.1 ss k).2
      have hcl := cat_length (packed a1 ss) 75 (fun i => (packed_len a1 ha.1 ss i).2) k 0
      have HL := Lib.hid (cat_last (packed a1 ss) k 0)
      rw [Nat.zero_add] at HL
      unfold ver body at HP
      replace HP := Lib.hid HP
      generalize cat (packed a1 ss) 0 k = C0 at *
      generalize packed a1 ss k = fk at *
      go_wp2_with fail
      · have hmk := mn_facts (ss.getD k ByteArray.empty).size 60 (by decide)
        have hmk2 : 0 ≤ mnI ((ss.getD k ByteArray.empty).size : Int) 60 ∧ mnI ((ss.getD k ByteArray.empty).size : Int) 60 ≤ ((ss.getD k ByteArray.empty).size : Int) := ⟨hmk.1, hmk.2.1⟩
        generalize ss.getD k ByteArray.empty = sk at *
        go_region_held3 (fun w' => w'.cell? (x.add k) = some (.string sk)) (first | exact hcc | exact hcc2) (first | (go_at_call 9; refine (HP.out _).mono ?_; rintro e w2 ⟨rfl, f2⟩; have hcc2 := cell_keep f2 hcc))
        have HF2 : Hid (Fr [] w w2) := HF.out.drew.trans0 f2
        clear hcc2 hcc f2 HF HP
        have happ := bs_app C0 fk
        have hsz : ¬ 9223372036854775807 < (bs C0).size + (bs fk).size := by rw [bs_size, bs_size]; omega
        go_wp2_with fail
        go_round
        case rel => exact ⟨k + 1, by omega, by go_num, by rw [HL.out], HF2⟩
        case measure => simp [intOf]; omega
    · have hk2 : ¬ (k : Int) < (n : Int) := by omega
      obtain rfl : n = k := by omega
      go_wp2_with fail
      go_loopw [6, 10, 11, 12, 13, 14] (fun s i _ _ _ _ wr => ∃ k : Nat, k ≤ n ∧ i = .int .i64 k ∧ s = .string (bs (cat (packed a1 ss) k (n - k))) ∧ Hid (Fr [] w wr)) (fun _ i _ _ _ _ _ => n - (intOf i).toNat)
      case atStart => exact ⟨0, by omega, rfl, rfl, HF⟩
      case round =>
        obtain ⟨k, hk, rfl, rfl, HF⟩ := hrel
        by_cases hlt : k < n
        · have hcc := cell_keep HF.out (HC.out k (by omega))
          have hk1 : (k : Int) < (n : Int) := by omega
          obtain ⟨m, hm⟩ : ∃ m, n - k = m + 1 := ⟨n - k - 1, by omega⟩
          have hm' : n - (k + 1) = m := by omega
          have hcl := cat_length (packed a1 ss) 75 (fun i => (packed_len a1 ha.1 ss i).2) m (k + 1)
          have HP := next_fact a1 ha.1 ss k (cat (packed a1 ss) (k + 1) m) (by omega)
          have hpl := packed_len a1 ha.1 ss k
          have HL : cat (packed a1 ss) (k + 1) (n - (k + 1)) = cat (packed a1 ss) (k + 1) m := by rw [hm']
          rw [hm, cat]
          unfold ver body at HP
          clear hm hm'
          replace HL := Lib.hid HL
          generalize cat (packed a1 ss) (k + 1) m = C1 at *
          generalize packed a1 ss k = fk at *
          have hmk := mn_facts (ss.getD k ByteArray.empty).size 60 (by decide)
          have hmk2 : 0 ≤ mnI ((ss.getD k ByteArray.empty).size : Int) 60 ∧ mnI ((ss.getD k ByteArray.empty).size : Int) 60 ≤ ((ss.getD k ByteArray.empty).size : Int) := ⟨hmk.1, hmk.2.1⟩
          generalize ss.getD k ByteArray.empty = sk at *
          obtain ⟨v, hv⟩ : ∃ v, IntKind.i64.wrap (1 + IntKind.i64.wrap ((a1 / 2 ^ k).tmod 2)) = v := ⟨_, rfl⟩
          obtain ⟨bd, hbd⟩ : ∃ bd, sk.extract 0 (mnI (sk.size : Int) 60).toNat = bd := ⟨_, rfl⟩
          rw [hv, hbd] at HP
          replace HP := Lib.hid HP
          have hv2 : wrap64 (1 + wrap64 ((a1 / 2 ^ k).tmod 2)) = v := by rw [← IntWalk.i64_left, ← IntWalk.i64_left]; exact hv
          have Hv := Lib.hid hv
          have Hv2 := Lib.hid hv2
          have Hbd := Lib.hid hbd
          clear hv hv2 hbd
          go_wp2_with fail
          refine (HP.out _).mono ?_
          rintro e w2 ⟨rfl, f2⟩
          have HF2 : Hid (Fr [] w w2) := HF.out.trans0 f2
          have hcc2 := cell_keep f2 hcc
          clear hcc f2 HF HP
          go_wp2_with fail
          have hv := Hv.out
          have hv2 := Hv2.out
          have hbd := Hbd.out
          have hq1 : (v != v) = false := by simp
          have hq2 : (bd.toList != bd.toList) = false := by simp
          have hq3 : ¬ (fk.length : Int) < 1 := by omega
          have hz : (bs (fk ++ C1)).size = fk.length + C1.length := by rw [bs_size, List.length_append]
          have hq4 : ¬ (fk.length : Int) > ((bs (fk ++ C1)).size : Int) := by omega
          go_region_held3 (fun w' => w'.cell? (x.add k) = some (.string sk)) (first | exact hcc2) (fail)
          clear hv hv2 hbd hq1 hq2 hmk hmk2
          have hex : (bs (fk ++ C1)).extract fk.length (bs (fk ++ C1)).size = bs C1 := by
            rw [bs_extract, bs_size, List.take_length, List.drop_left]
          have hb0 : 0 ≤ (fk.length : Int) ∧ (fk.length : Int) ≤ ((bs (fk ++ C1)).size : Int) := by omega
          go_wp2_with fail
          go_round
          case rel => exact ⟨k + 1, by omega, by go_num, by rw [HL.out, ← hex, hz], HF2.out.drew⟩
          case measure => simp [intOf]; omega
        · have hk2 : ¬ (k : Int) < (n : Int) := by omega
          obtain rfl : n = k := by omega
          rw [Nat.sub_self, cat]
          have hnl : (bs []).toList = [] := by rw [Lib.toList_data]; rfl
          go_wp2_with fail
          refine (none_fact _).mono ?_
          rintro e w3 ⟨rfl, f3⟩
          have HF3 : Hid (Fr [] w w3) := HF.out.trans0 f3
          clear HF f3
          go_wp2_with fail
          go_ret
          exact ⟨rfl, HF3.out⟩

set_option maxRecDepth 100000 in
set_option maxHeartbeats 4000000 in
theorem walkNil (a1 : Int) (w : World) :
    Calls Try.prog 7 #[.slice none 0 0, .int .u8 a1] w fun e w' => e = .returned (.bool true) ∧ Fr [] w w' := by
  have hm : mnI (0 : Int) 6 = 0 := by decide
  go_enter Try.func7, Try.ntmps7
  go_wp2_with fail
  refine (fExamples _).mono ?_
  rintro e w1 ⟨rfl, f1⟩
  have F1 : Hid (Fr [] w w1) := f1
  clear f1
  go_wp2_with fail
  go_loopw [6, 7, 8, 9] (fun s i _ _ wr => i = .int .i64 0 ∧ s = .string (bs []) ∧ Hid (Fr [] w wr)) (fun _ _ _ _ _ => 0)
  case atStart => exact ⟨rfl, rfl, F1⟩
  case round =>
    obtain ⟨rfl, rfl, HF⟩ := hrel
    go_wp2_with fail
    go_loopw [6, 10, 11, 12, 13, 14] (fun s i _ _ _ _ wr => i = .int .i64 0 ∧ s = .string (bs []) ∧ Hid (Fr [] w wr)) (fun _ _ _ _ _ _ _ => 0)
    case atStart => exact ⟨rfl, rfl, HF⟩
    case round =>
      obtain ⟨rfl, rfl, HF⟩ := hrel
      have hnl : (bs []).toList = [] := by rw [Lib.toList_data]; rfl
      go_wp2_with fail
      refine (none_fact _).mono ?_
      rintro e w3 ⟨rfl, f3⟩
      have HF3 : Hid (Fr [] w w3) := HF.out.trans0 f3
      clear HF f3
      go_wp2_with fail
      go_ret
      exact ⟨rfl, HF3.out⟩

/-! ### THE ROW's STEP -/
theorem own : ownKnob Try.prog.godebug = none := by kernel_rfl
theorem laidOut : laidOutB Try.prog = true := by kernel_rfl
theorem cellsS : Try.prog.cellsOf 9 = 1 := by kernel_rfl

set_option maxRecDepth 100000 in
theorem lifted (os : Os) (started : os.Started) (H : Type) (enc : TypeId × Value → H) :
    ReturnsInHanded {} Try.checked os 7 .any (Rows.frameNextSpec.pre6 enc Try.prog Try.f7 Rows.frameNextRow.domain false) (Rows.frameNextSpec.post enc Try.prog Try.f7 false true false false) := by
  refine returnsInHanded_of_change (C := Try.checked) own started (by kernel_rfl) Try.func7
    (ChangeSpec.witness6 (enc := enc) (C := Try.checked) false ⟨#[], #[.slice none 0 0, .int .u8 0], []⟩ 8 (by kernel_rfl) (by kernel_rfl) (by kernel_rfl) (by kernel_rfl)) ?_
  intro W base args ds gs before hval0 hW hcnd _
  have hval : ∀ (j : Nat) t v, Try.f7.params[j]? = some t → args[j]? = some v → Value.okWide Try.prog W .any base t v := hval0
  have hW' := hW
  obtain ⟨p, q, hA0, hV, rfl, _, _⟩ := hW
  have hA : DataW.TrodAll enc Try.prog W 0 (fun _ => true) true Try.f7.params.toList args.toList ds p := hA0
  rw [Try.params7] at hA hval
  obtain ⟨v0, vs0, d0, ds0, p0, q0, hargs, rfl, rfl, h0, r0⟩ := trodAll_cons hA
  obtain ⟨v1, vs1, d1, ds1, p1, q1, rfl, rfl, rfl, h1, r1⟩ := trodAll_cons r0
  obtain ⟨rfl, rfl, rfl⟩ := trodAll_nil r1
  obtain rfl : args = #[v0, v1] := by cases args; simp_all
  obtain ⟨rfl, rfl⟩ := trodVars_none hV
  obtain ⟨x0, len0, cap0, rfl⟩ := okWide_slice Try.underlying48 (hval 0 48 v0 rfl rfl)
  have k0 := h0
  have lt0 : ∀ x ∈ p0, x.block < W.heap.size := by obtain ⟨m, hm⟩ := k0; exact DataW.trod_lt m _ _ _ hm
  obtain ⟨a1, rfl, rfl, rfl, w1⟩ := open_int Try.underlying5 (hval 1 5 v1 rfl rfl) h1
  clear hA0 hval0
  simp only [List.append_nil] at hW'
  have hwalk : Calls Try.prog 7 #[.slice x0 len0 cap0, .int .u8 a1] W fun e w' => e = .returned (.bool true) ∧ Fr [] W w' := by
    obtain ⟨fuel, hf⟩ := h0
    rcases open_strings Try.underlying48 Try.underlying9 cellsS hf with ⟨hcs, _⟩ | ⟨x, l, c, ss, hcs, _, hl, hm, hz, _, hcell, _⟩
    · simp [Value.cells] at hcs
      obtain ⟨rfl, rfl, rfl⟩ := hcs
      exact walkNil a1 W
    · simp [Value.cells] at hcs
      obtain ⟨rfl, rfl, rfl⟩ := hcs
      have hz' : ss.length = cap0 := by simpa using hz
      exact walk x len0 cap0 ss a1 (bounds_u8 w1) W (by omega) hl hcell
  refine hwalk.mono fun e W' ⟨he, fr⟩ => ?_
  subst he
  exact ⟨_, rfl, _, _, _, [], _, [], hW', trodAll_mk1 (shut_bool Try.underlying4 _), (trodAll_cons_mk (Below.trod laidOut (by kernel_rfl) (of_decide_eq_true (by kernel_rfl)) k0 fr.below lt0) (trodAll_cons_mk (shut_int Try.underlying5 w1) trodAll_mk0)), rfl, fr.below.frame _, fun h => by cases h⟩

theorem over : Rows.frameNextRow.holds Try.pinned (OpenSpec.ofChange Rows.frameNextSpec) :=
  OpenClaim.holds_of_wide 7 Try.f7 rfl rfl rfl rfl rfl rfl rfl ⟨rfl, rfl, rfl, rfl, rfl⟩ rfl rfl rfl rfl rfl (by kernel_rfl) Try.func7 (by kernel_rfl)
    (of_decide_eq_true (by kernel_rfl)) (by unfold Func.isWrapper; first | (rw [if_pos (by decide +kernel)]; kernel_rfl) | (rw [if_neg (by decide +kernel)]; exact ⟨rfl, rfl⟩))
    (fun os started H enc _ => lifted os started H enc)

/-- THE STATEMENT -/
theorem proved : Rows.FrameNextSaid :=
  over
#print axioms proved
end Go.Proofs.Ytacdbglocpaeaaa.frameNext
