/-
  FrameBit: a packed text in which one bit of the sum or of the body has turned is no packed text. And the row's sentence of it.
-/
import Derived.Test.YtacdbglocpaeaaaRows
import Derived.Test.YtacdbglocpaeaaaFEx2
import Derived.Test.YtacdbglocpaeaaaFLaw3
import Derived.WalkKit
import Derived.ProofKit
import Derived.OpenShut
import Derived.ShutString
import Derived.ChangeOld
import Derived.Below
import Derived.SizedLaws
import Derived.RegionTactic
import Derived.BigRegion
import Derived.IntWalk
namespace Go.Proofs.Ytacdbglocpaeaaa.frameBit
open Go.ChangeShapes Go.WideShapes Go.ChangeAt Go.RowKit Go.Proofs.Ytacdbglocpaeaaa
open Go.ChangeMaps (open_string shut_string)

theorem unpack_flip (v : Int) (hv : v = 1 ∨ v = 2) (l : List UInt8) (hl : l.length ≤ 1048576) (i : Nat) (x : UInt8) (h0 : (packL v l).length - l.length - 4 ≤ i) (h1 : i < (packL v l).length) (hx : (packL v l)[i] ≠ x) :
    unpackOf (nextS (bs ((packL v l).set i x))) (bs ((packL v l).set i x)).size = (0, bs [], false) := by
  have hp := packL_eq v l []
  simp only [List.append_nil] at hp
  generalize hT : fixL (crcMore (crcMore 0 (headL v l.length)) l : Nat) 4 ++ l = T at hp
  have hTl : T.length = 4 + l.length := by rw [← hT, List.length_append, fixL_length _ 4 (by decide)]
  rw [packL_length] at h0 h1
  obtain ⟨j, rfl⟩ : ∃ j, i = (headL v l.length).length + j := ⟨i - (headL v l.length).length, by omega⟩
  have hj : j < T.length := by omega
  have hc : (packL v l)[(headL v l.length).length + j]'(by rw [packL_length]; omega) = T[j] := by
    simp only [hp]
    rw [List.getElem_append_right (by omega)]
    simp
  rw [hc] at hx
  have hset : (packL v l).set ((headL v l.length).length + j) x = headL v l.length ++ (T.take j ++ x :: T.drop (j + 1)) := by
    rw [hp, List.set_append_right _ _ (by omega), Nat.add_sub_cancel_left, List.set_eq_take_append_cons_drop, if_pos hj]
  rw [hset]
  exact unpack_bent v hv l hl (T.take j) (T.drop (j + 1)) T[j] x hx (by rw [hT]; simp)

theorem facts (v : Int) (hv : v = 1 ∨ v = 2) (l : List UInt8) (hl : l.length ≤ 100) : ∃ p : List UInt8, l.length + 4 ≤ p.length ∧ p.length ≤ 2000 ∧
    (∀ w, Calls Try.prog 9 #[.int .i64 v, .string (bs l)] w fun e w' => e = .returned (.tuple #[.string (bs p), .bool true]) ∧ Fr [] w w') ∧
    (∀ (i : Nat) (x : UInt8) (w : World) (hi : i < p.length), p.length - l.length - 4 ≤ i → p[i] ≠ x → Calls Try.prog 14 #[.string (bs (p.set i x))] w fun e w' => e = .returned (.tuple #[.int .i64 0, .string (bs []), .bool false]) ∧ Fr [] w w') := by
  have hr : packR v l = (packL v l, true) := by rw [packR, if_pos (by omega)]
  have hs := packR_size v l (by omega)
  rw [hr] at hs
  have hs2 : (bs (packL v l)).size ≤ 115 := by have : (bs (packL v l)).size ≤ l.length + 15 := hs; omega
  have hs3 : (packL v l).length ≤ 115 := by rwa [bs_size] at hs2
  refine ⟨packL v l, by rw [packL_length]; omega, by omega, ?_, ?_⟩
  · intro w
    have h := fPack v l w (by unfold maxLen; omega)
    rwa [hr] at h
  · intro i x w hi h0 hx
    have h := fUnpack (bs ((packL v l).set i x)) w (by rw [bs_size, List.length_set]; omega)
    rwa [unpack_flip v hv l (by omega) i x h0 hi hx] at h

theorem mn_facts (n : Nat) (m : Int) (h : 0 ≤ m) : 0 ≤ mnI (n : Int) m ∧ mnI (n : Int) m ≤ (n : Int) ∧ mnI (n : Int) m ≤ m := by
  unfold mnI
  split <;> omega

theorem cell_same {w : World} {g k : Nat} {v u : Value} (hx : w.cell? ⟨g, k, none⟩ = some v) : (w.setCell ⟨g, k, none⟩ u).cell? ⟨g, k, none⟩ = some u := by
  unfold World.cell? at hx ⊢
  cases ho : w.heap[g]? with
  | none => simp [ho] at hx
  | some o =>
    cases o with
    | cells c t fr =>
      simp [ho] at hx
      have hk : k < c.size := by
        rcases Nat.lt_or_ge k c.size with h5 | h5
        · exact h5
        · rw [Array.getElem?_eq_none h5] at hx; cases hx
      simp [World.setCell, Array.getElem?_modify, ho, hk]
    | _ => simp [ho] at hx

theorem cell_other {w : World} {g k j : Nat} {u : Value} (e : k ≠ j) : (w.setCell ⟨g, k, none⟩ u).cell? ⟨g, j, none⟩ = w.cell? ⟨g, j, none⟩ := by
  unfold World.cell?
  cases ho : w.heap[g]? with
  | none => simp [World.setCell, Array.getElem?_modify, ho]
  | some o => cases o <;> simp [World.setCell, Array.getElem?_modify, ho, e]

/-- 'string(b)' of a text's bytes in which one has been set. -/
theorem str_set {P : Program} {w : World} {g j : Nat} {q : Int} {p : List UInt8} {t : TypeId} (h : Byt w g (bs p) t) (hj : j < p.length) (h0 : 0 ≤ q) (h1 : q ≤ 255) {src dst e : TypeId} (hs : P.underlying src = some (.slice e)) (he : P.underlying e = some (.int .u8)) (hd : P.underlying dst = some .string) (cap : Nat) :
    (convert src dst (.slice (Option.some ⟨g, 0, none⟩) p.length cap)).run P (w.setCell ⟨g, j, none⟩ (.int .u8 q)).drew = .ok (.string (bs (p.set j (UInt8.ofNat q.toNat)))) (w.setCell ⟨g, j, none⟩ (.int .u8 q)).drew := by
  have hcell : ∀ i (hi : i < (p.set j (UInt8.ofNat q.toNat)).length), (w.setCell ⟨g, j, none⟩ (.int .u8 q)).drew.cell? ⟨g, i, none⟩ = some (.int .u8 ((p.set j (UInt8.ofNat q.toNat))[i].toNat : Int)) := by
    intro i hi
    have hi2 : i < p.length := by rwa [List.length_set] at hi
    show (w.setCell ⟨g, j, none⟩ (.int .u8 q)).cell? ⟨g, i, none⟩ = _
    rw [List.getElem_set]
    split
    · subst j
      have hb : ((UInt8.ofNat q.toNat).toNat : Int) = q := by simp; omega
      rw [hb]
      exact cell_same (h.cell (by rw [bs_size]; exact hi2))
    · rename_i hne
      rw [cell_other hne, h.cell (by rw [bs_size]; exact hi2)]
      rw [bs_list, List.getD_eq_getElem?_getD, List.getElem?_eq_getElem hi2]
      rfl
  have := run_convert_bytes_back (P := P) (w.setCell ⟨g, j, none⟩ (.int .u8 q)).drew src dst e ⟨g, 0, none⟩ cap (p.set j (UInt8.ofNat q.toNat)) hs he hd (fun i hi => by
    rw [← hcell i hi]
    unfold Addr.add
    split
    · subst i; rfl
    · simp)
  rw [List.length_set] at this
  exact this

theorem flips : ∀ (a : Fin 256) (r : Fin 8), bits BinOp.xor IntKind.u8 (a.val : Int) (2 ^ r.val % 256) ≠ (a.val : Int) := by decide +kernel

theorem flips' (c : UInt8) (bt : Int) : bits BinOp.xor IntKind.u8 ((c.toNat : Nat) : Int) (2 ^ (bt % 8).toNat % 256) ≠ (c.toNat : Int) := by
  have h1 : bt % 8 < 8 := Int.emod_lt_of_pos _ (by decide)
  exact flips ⟨c.toNat, c.toNat_lt⟩ ⟨(bt % 8).toNat, by omega⟩

set_option maxRecDepth 100000 in
set_option maxHeartbeats 4000000 in
theorem walk (a0 : Bool) (l1 : List UInt8) (a2 : Int) (h1 : (bs l1).size ≤ 140737488351232) (w2 : 0 ≤ a2 ∧ a2 ≤ 65535) (w : World) :
    Calls Try.prog 6 #[.bool a0, .string (bs l1), .int .u16 a2] w fun e w' => e = .returned (.bool true) ∧ Fr [] w w' := by
  have hl1 : l1.length ≤ 140737488351232 := by rwa [bs_size] at h1
  have hmn := mn_facts (bs l1).size 100 (by decide)
  have hm2 : 0 ≤ mnI ((bs l1).size : Int) 100 ∧ mnI ((bs l1).size : Int) 100 ≤ ((bs l1).size : Int) := ⟨hmn.1, hmn.2.1⟩
  obtain ⟨l, hl, hE⟩ : ∃ l : List UInt8, l.length ≤ 100 ∧ (bs l1).extract 0 (mnI ((bs l1).size : Int) 100).toNat = bs l :=
    ⟨(l1.take (mnI ((bs l1).size : Int) 100).toNat), by rw [List.length_take]; omega, by rw [bs_extract, List.drop_zero]⟩
  cases a0
  all_goals
    go_enter Try.func6, Try.ntmps6
    go_wp2_with fail
    refine (fExamples _).mono ?_
    rintro e w1 ⟨rfl, f1⟩
    go_wp2_with fail
    generalize (bs l1).extract 0 (mnI ((bs l1).size : Int) 100).toNat = B at *
    subst hE
    clear hm2 hmn h1 hl1
    first
    | obtain ⟨p, hp0, hp1, HP, HU⟩ := facts 1 (.inl rfl) l hl
      with_reducible refine (HP _).mono ?_
    | obtain ⟨p, hp0, hp1, HP, HU⟩ := facts 2 (.inr rfl) l hl
      with_reducible refine (HP _).mono ?_
    clear HP
    replace HU := Lib.hid HU
    rintro e w2 ⟨rfl, f2⟩
    have F2 : Hid (Fr [] w w2) := f1.trans0 f2
    clear f1 f2
    have hlz : (bs l).size = l.length := bs_size l
    have hpz : (bs p).size = p.length := bs_size p
    have hlt : ¬ ((bs p).size : Int) < ((bs l).size : Int) + 4 := by omega
    go_wp2_with (refine wpList_bytes 9 46 5 _ Try.underlying9 Try.underlying46 Try.underlying5 _ rfl ?_; intro g cap w3 hg hB hF)
    have hb0 : 0 ≤ a2 % (8 * ((l.length : Int) + 4)) := Int.emod_nonneg _ (by omega)
    have hb1 : a2 % (8 * ((l.length : Int) + 4)) < 8 * ((l.length : Int) + 4) := Int.emod_lt_of_pos _ (by omega)
    generalize a2 % (8 * ((l.length : Int) + 4)) = bt at *
    obtain ⟨at0, hat⟩ : ∃ at0, (p.length : Int) - l.length - 4 = at0 := ⟨_, rfl⟩
    rw [hat]
    obtain ⟨j, hj⟩ : ∃ j : Nat, at0 + bt / 8 = j := ⟨(at0 + bt / 8).toNat, by omega⟩
    have hjl : j < p.length := by omega
    have hja : p.length - l.length - 4 ≤ j := by omega
    have hat0 : 0 ≤ at0 := by omega
    have hat1 : at0 ≤ 2000 := by omega
    have hbt1 : bt ≤ 832 := by omega
    clear hat hb1 hlt
    have hc := hB.out.cell (j := j) (by omega)
    have hfz : w3.frozen? ⟨g, j, none⟩ = false := hB.out.froz (by omega)
    go_region
    have hpj : (bs p).data[j]'(by show j < (bs p).size; omega) = p[j] := by simp [bs]
    rw [hpj]
    have hq0 := bits_lo_u8 .xor ((p[j].toNat : Nat) : Int) (2 ^ (bt % 8).toNat % 256)
    have hq1 := bits_hi_u8 .xor ((p[j].toNat : Nat) : Int) (2 ^ (bt % 8).toNat % 256)
    have hq2 := flips' p[j] bt
    generalize bits BinOp.xor IntKind.u8 ((p[j].toNat : Nat) : Int) (2 ^ (bt % 8).toNat % 256) = q at *
    have hcv := str_set (P := Try.prog) hB.out hjl hq0 hq1 Try.underlying46 Try.underlying5 Try.underlying9 cap
    have HF2 : Hid (Fr [] w ((w3.setCell ⟨g, j, none⟩ (.int .u8 q)).drew)) := F2.out.trans0 ((hF.out.setCell (.inr (Nat.le_of_eq hg.out.symm)) _).drew)
    have HU2 := Lib.hid (fun w => HU.out j (UInt8.ofNat q.toNat) w hjl hja (fun e => hq2 (by rw [e]; simp; omega)))
    clear HU hc hfz hj hpj hB hF F2
    generalize (w3.setCell ⟨g, j, none⟩ (.int .u8 q)).drew = w4 at *
    go_wp2_with fail
    refine (HU2.out _).mono ?_
    rintro e w5 ⟨rfl, f5⟩
    have F5 : Hid (Fr [] w w5) := HF2.out.trans0 f5
    clear f5 HF2 HU2
    go_wp2_with fail
    go_ret
    exact ⟨rfl, F5.out⟩

/-! ### THE ROW's STEP -/
theorem own : ownKnob Try.prog.godebug = none := by kernel_rfl

set_option maxRecDepth 100000 in
theorem lifted (os : Os) (started : os.Started) (H : Type) (enc : TypeId × Value → H) :
    ReturnsInHanded {} Try.checked os 6 .any (Rows.frameBitSpec.pre6 enc Try.prog Try.f6 Rows.frameBitRow.domain false) (Rows.frameBitSpec.post enc Try.prog Try.f6 false true false false) := by
  refine returnsInHanded_of_change_sized (C := Try.checked) own started (by kernel_rfl) Try.func6
    (ChangeSpec.witness6 (enc := enc) (C := Try.checked) false ⟨#[], #[.bool false, .string ByteArray.empty, .int .u16 0], []⟩ 8 (by kernel_rfl) (by kernel_rfl) (by kernel_rfl) (by kernel_rfl)) ?_
  intro W base args ds gs before hval0 hW _ hsz0 _
  have hsz : (DataW.weightsEach Try.prog (Try.f6.params.toList ++ Rows.frameBitSpec.plain.varTypes Try.prog) (ds ++ gs)).all (· ≤ reachBytes) = true := hsz0
  clear hsz0
  have hval : ∀ (j : Nat) t v, Try.f6.params[j]? = some t → args[j]? = some v → Value.okWide Try.prog W .any base t v := hval0
  have hW' := hW
  obtain ⟨p, q, hA0, hV, rfl, _, _⟩ := hW
  have hA : DataW.TrodAll enc Try.prog W 0 (fun _ => true) true Try.f6.params.toList args.toList ds p := hA0
  rw [Try.params6] at hA hval hsz
  obtain ⟨v0, vs0, d0, ds0, p0, q0, hargs, rfl, rfl, h0, r0⟩ := trodAll_cons hA
  obtain ⟨v1, vs1, d1, ds1, p1, q1, rfl, rfl, rfl, h1, r1⟩ := trodAll_cons r0
  obtain ⟨v2, vs2, d2, ds2, p2, q2, rfl, rfl, rfl, h2, r2⟩ := trodAll_cons r1
  obtain ⟨rfl, rfl, rfl⟩ := trodAll_nil r2
  obtain rfl : args = #[v0, v1, v2] := by cases args; simp_all
  obtain ⟨rfl, rfl⟩ := trodVars_none hV
  obtain ⟨a0, rfl, rfl, rfl⟩ := open_bool Try.underlying4 (hval 0 4 v0 rfl rfl) h0
  obtain ⟨a1, rfl, rfl, rfl, w1⟩ := open_string Try.underlying9 (hval 1 9 v1 rfl rfl) h1
  obtain ⟨a2, rfl, rfl, rfl, w2⟩ := open_int Try.underlying44 (hval 2 44 v2 rfl rfl) h2
  clear hA0 hval0
  simp only [List.append_nil] at hW'
  have s1 : a1.size ≤ 140737488351232 := by
    have := sized_string hsz (j := 1) (t := 9) rfl rfl
    simpa [reachBytes] using this
  have b2 := bounds_u16 w2
  have hwalk := walk a0 a1.data.toList a2 (by rwa [bs_of]) b2 W
  simp only [bs_of] at hwalk
  refine hwalk.mono fun e W' ⟨he, fr⟩ => ?_
  subst he
  exact ⟨_, rfl, _, _, _, [], _, [], hW', trodAll_mk1 (shut_bool Try.underlying4 _), (trodAll_cons_mk (shut_bool Try.underlying4 _) (trodAll_cons_mk (shut_string Try.underlying9 w1) (trodAll_cons_mk (shut_int Try.underlying44 w2) trodAll_mk0))), rfl, fr.below.frame _, fun h => by cases h⟩

theorem over : Rows.frameBitRow.holds Try.pinned (OpenSpec.ofChange Rows.frameBitSpec) :=
  OpenClaim.holds_of_wide 6 Try.f6 rfl rfl rfl rfl rfl rfl rfl ⟨rfl, rfl, rfl, rfl, rfl⟩ rfl rfl rfl rfl rfl (by kernel_rfl) Try.func6 (by kernel_rfl)
    (of_decide_eq_true (by kernel_rfl)) (by unfold Func.isWrapper; first | (rw [if_pos (by decide +kernel)]; kernel_rfl) | (rw [if_neg (by decide +kernel)]; exact ⟨rfl, rfl⟩))
    (fun os started H enc _ => lifted os started H enc)

/-- THE STATEMENT -/
theorem proved : Rows.FrameBitSaid :=
  over
#print axioms proved
end Go.Proofs.Ytacdbglocpaeaaa.frameBit
