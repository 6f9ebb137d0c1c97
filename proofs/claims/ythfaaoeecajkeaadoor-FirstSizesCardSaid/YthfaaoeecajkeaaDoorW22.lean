/-
  Texts of this seat, joined: RMr2 RMr3 RMr4.
-/
import Derived.Test.YthfaaoeecajkeaaDoorW21
set_option linter.unusedSimpArgs false
set_option linter.unusedVariables false
namespace Go.Proofs.YthfaaoeecajkeaaDoor
open Go.RowKit

set_option maxRecDepth 100000 in
set_option maxHeartbeats 8000000 in
theorem rMsgRight_y (m : Msg) (v : Value) (may : ByteArray) (w : World) (hf : m.Fits) (hv : Ents w v m.ents) (hkind : msgMay m.kind = (may, true)) (hs : may.size ≤ maxLen) (qi : hasI may 105 = false) (qp : hasI may 112 = false) (qt : hasI may 116 = false) (qk : hasI may 107 = false) (qy : hasI may 121 = true) (qe : hasI may 101 = false) (qs : hasI may 115 = false) :
    Calls Tryd.prog 45 #[.agg (m.cells v)] w fun r w' => r = .returned (.bool (okMR false false false false true false false m.ents.length (m.ents.any (fun e => !e.ok)) m)) ∧ Fr [] w w' := by
  obtain ⟨ad, cp, rfl⟩ := hv.shape
  have hmany := hf.many
  have hfe := Lib.hid hf.ents
  obtain ⟨hT, hI, hP, hC, hK, _, _, hS⟩ := hf
  unfold U64 maxLen at *
  have HF := Lib.hid (rMsgFields m.kind)
  rw [hkind] at HF
  clear hkind
  have HH := Lib.hid (fun c w => rHas may c w hs)
  have HBm := fun w2 (f : Fr [] (w.alloc (.cells (m.cells (.slice ad m.ents.length cp)) 47)) w2) => (Blk.new w (m.cells (.slice ad m.ents.length cp)) 47).fr0 f
  have HM := Lib.hid HBm
  have HV := Lib.hid (hv.fr0 ((Fr.refl [] w).alloc (.cells (m.cells (.slice ad m.ents.length cp)) 47)))
  have HF0 : Hid (Fr [] w (w.alloc (.cells (m.cells (.slice ad m.ents.length cp)) 47))) := (Fr.refl _ _).alloc _
  have HC := Lib.hid (fun w2 f => msgC (HBm w2 f))
  clear HBm hv HM
  unfold Msg.cells at *
  generalize hn : m.ents.length = n at *
  have HNn := Lib.hid hn
  clear hn
  go_enter Tryd.func45, Tryd.ntmps45
  go_wp2_with fail
  refine (HF.out _).mono ?_
  rintro r w2 ⟨rfl, g2⟩
  obtain ⟨c1, c2, c4, c5, c6, c7, c8, c9, c10⟩ := HC.out _ g2
  have HC2 := Lib.hid (fun w3 (f : Fr [] w2 w3) => HC.out w3 (g2.trans0 f))
  have HV2 := Lib.hid (HV.out.fr0 g2)
  have HF2 : Hid (Fr [] w w2) := HF0.out.trans0 g2
  clear HC HV HF0 g2 HF
  generalize w.heap.size = bx at *
  go_wp2_with fail
  all_goals first
    | (go_ret; refine ⟨?_, HF2.out⟩; refine ret_bool ?_; clear HC2 HV2 HF2 HH hfe HNn; symm; unfold okMR; simp; omega)
    | skip
  clear c1 c2 c4 c5 c6 c7 c8 c9 c10
  go_loopw [5] (fun i wr => ∃ k : Nat, k ≤ n ∧ i = .int .i64 k ∧ Hid (m.ents.any (fun e => !e.ok) = (m.ents.drop k).any (fun e => !e.ok)) ∧ Hid (Fr [] w2 wr)) (fun i _ => n - (intOf i).toNat)
  case atStart => exact ⟨0, by omega, rfl, rfl, Fr.refl _ _⟩
  case round =>
    obtain ⟨k, hk, rfl, HI, HR⟩ := hrel
    obtain ⟨c1, c2, c4, c5, c6, c7, c8, c9, c10⟩ := HC2.out _ HR.out
    by_cases hlt : k < n
    · obtain ⟨b, o, had⟩ : ∃ b o, ad = some ⟨b, o, none⟩ := by
        rcases HV2.out with ⟨h1, _⟩ | ⟨b, o, c, h1, _⟩
        · have := HNn.out; rw [h1] at this; simp at this; omega
        · injection h1 with h1; exact ⟨b, o, h1⟩
      subst had
      have hlk : k < m.ents.length := by have := HNn.out; omega
      have hrow := (HV2.out.fr0 HR.out).row HNn.out (by omega)
      obtain ⟨e, he⟩ : ∃ e, m.ents[k] = e := ⟨_, rfl⟩
      obtain ⟨d0, d1, d2, d3, d4, d5, d6, d7, d8, d9, d10⟩ := entCells hrow.2 hlk he
      have HS := Lib.hid (any_step (p := fun e => !e.ok) hlk)
      rw [he] at HS
      have HL := Lib.hid (fun w => rRight e w (hfe.out e (by rw [← he]; exact List.getElem_mem _)))
      unfold Ent.cells at HL
      clear he hrow hlk
      by_cases h2 : e.ok = true
      · have HT : Hid (m.ents.any (fun e => !e.ok) = (m.ents.drop (k + 1)).any (fun e => !e.ok)) := by rw [HI.out, HS.out, h2]; rfl
        rw [h2] at HL
        clear h2
        go_wp2_with (go_at_call 32; refine (HL.out _).mono ?_; rintro r w3 ⟨rfl, f3⟩)
        go_roundw
        case rel => exact ⟨k + 1, by omega, by go_num, HT, HR.out.trans0 f3⟩
        case measure => simp [intOf]; omega
      · have h2b : e.ok = false := by simpa using h2
        have HT : Hid (m.ents.any (fun e => !e.ok) = true) := by rw [HI.out, HS.out, h2b]; rfl
        rw [h2b] at HL
        clear h2 h2b
        go_wp2_with (go_at_call 32; refine (HL.out _).mono ?_; rintro r w3 ⟨rfl, f3⟩)
        go_ret
        refine ⟨ret_bool ?_, (HF2.out.trans0 HR.out).trans0 f3⟩
        rw [HT.out]
        unfold okMR
        simp
    · have HE : Hid (m.ents.any (fun e => !e.ok) = false) := by
        rw [HI.out, List.drop_of_length_le (by rw [HNn.out]; omega)]; rfl
      go_wp2_with (go_at_call 60; refine (HH.out _ _).mono ?_; rintro r w' ⟨rfl, rfl⟩)
      all_goals go_ret
      all_goals refine ⟨ret_bool ?_, HF2.out.trans0 HR.out⟩
      all_goals rw [HE.out]
      all_goals clear HC2 HV2 HF2 HH hfe HNn HE HI HR
      all_goals clear c1 c2 c4 c5 c6 c7 c8 c9 c10 hs qi qp qt qk qy qe qs
      all_goals symm
      all_goals unfold okMR
      all_goals first | (simp [*]; done) | (simp; omega) | (simp [*]; omega) | grind | (rw [Bool.eq_iff_iff]; simp [List.isEmpty_iff] at *; grind)
end Go.Proofs.YthfaaoeecajkeaaDoor

namespace Go.Proofs.YthfaaoeecajkeaaDoor
open Go.RowKit

set_option maxRecDepth 100000 in
set_option maxHeartbeats 8000000 in
theorem rMsgRight_iptek (m : Msg) (v : Value) (may : ByteArray) (w : World) (hf : m.Fits) (hv : Ents w v m.ents) (hkind : msgMay m.kind = (may, true)) (hs : may.size ≤ maxLen) (qi : hasI may 105 = true) (qp : hasI may 112 = true) (qt : hasI may 116 = true) (qk : hasI may 107 = true) (qy : hasI may 121 = false) (qe : hasI may 101 = true) (qs : hasI may 115 = false) :
    Calls Tryd.prog 45 #[.agg (m.cells v)] w fun r w' => r = .returned (.bool (okMR true true true true false true false m.ents.length (m.ents.any (fun e => !e.ok)) m)) ∧ Fr [] w w' := by
  obtain ⟨ad, cp, rfl⟩ := hv.shape
  have hmany := hf.many
  have hfe := Lib.hid hf.ents
  obtain ⟨hT, hI, hP, hC, hK, _, _, hS⟩ := hf
  unfold U64 maxLen at *
  have HF := Lib.hid (rMsgFields m.kind)
  rw [hkind] at HF
  clear hkind
  have HH := Lib.hid (fun c w => rHas may c w hs)
  have HBm := fun w2 (f : Fr [] (w.alloc (.cells (m.cells (.slice ad m.ents.length cp)) 47)) w2) => (Blk.new w (m.cells (.slice ad m.ents.length cp)) 47).fr0 f
  have HM := Lib.hid HBm
  have HV := Lib.hid (hv.fr0 ((Fr.refl [] w).alloc (.cells (m.cells (.slice ad m.ents.length cp)) 47)))
  have HF0 : Hid (Fr [] w (w.alloc (.cells (m.cells (.slice ad m.ents.length cp)) 47))) := (Fr.refl _ _).alloc _
  have HC := Lib.hid (fun w2 f => msgC (HBm w2 f))
  clear HBm hv HM
  unfold Msg.cells at *
  generalize hn : m.ents.length = n at *
  have HNn := Lib.hid hn
  clear hn
  go_enter Tryd.func45, Tryd.ntmps45
  go_wp2_with fail
  refine (HF.out _).mono ?_
  rintro r w2 ⟨rfl, g2⟩
  obtain ⟨c1, c2, c4, c5, c6, c7, c8, c9, c10⟩ := HC.out _ g2
  have HC2 := Lib.hid (fun w3 (f : Fr [] w2 w3) => HC.out w3 (g2.trans0 f))
  have HV2 := Lib.hid (HV.out.fr0 g2)
  have HF2 : Hid (Fr [] w w2) := HF0.out.trans0 g2
  clear HC HV HF0 g2 HF
  generalize w.heap.size = bx at *
  go_wp2_with fail
  all_goals first
    | (go_ret; refine ⟨?_, HF2.out⟩; refine ret_bool ?_; clear HC2 HV2 HF2 HH hfe HNn; symm; unfold okMR; simp; omega)
    | skip
  clear c1 c2 c4 c5 c6 c7 c8 c9 c10
  go_loopw [5] (fun i wr => ∃ k : Nat, k ≤ n ∧ i = .int .i64 k ∧ Hid (m.ents.any (fun e => !e.ok) = (m.ents.drop k).any (fun e => !e.ok)) ∧ Hid (Fr [] w2 wr)) (fun i _ => n - (intOf i).toNat)
  case atStart => exact ⟨0, by omega, rfl, rfl, Fr.refl _ _⟩
  case round =>
    obtain ⟨k, hk, rfl, HI, HR⟩ := hrel
    obtain ⟨c1, c2, c4, c5, c6, c7, c8, c9, c10⟩ := HC2.out _ HR.out
    by_cases hlt : k < n
    · obtain ⟨b, o, had⟩ : ∃ b o, ad = some ⟨b, o, none⟩ := by
        rcases HV2.out with ⟨h1, _⟩ | ⟨b, o, c, h1, _⟩
        · have := HNn.out; rw [h1] at this; simp at this; omega
        · injection h1 with h1; exact ⟨b, o, h1⟩
      subst had
      have hlk : k < m.ents.length := by have := HNn.out; omega
      have hrow := (HV2.out.fr0 HR.out).row HNn.out (by omega)
      obtain ⟨e, he⟩ : ∃ e, m.ents[k] = e := ⟨_, rfl⟩
      obtain ⟨d0, d1, d2, d3, d4, d5, d6, d7, d8, d9, d10⟩ := entCells hrow.2 hlk he
      have HS := Lib.hid (any_step (p := fun e => !e.ok) hlk)
      rw [he] at HS
      have HL := Lib.hid (fun w => rRight e w (hfe.out e (by rw [← he]; exact List.getElem_mem _)))
      unfold Ent.cells at HL
      clear he hrow hlk
      by_cases h2 : e.ok = true
      · have HT : Hid (m.ents.any (fun e => !e.ok) = (m.ents.drop (k + 1)).any (fun e => !e.ok)) := by rw [HI.out, HS.out, h2]; rfl
        rw [h2] at HL
        clear h2
        go_wp2_with (go_at_call 32; refine (HL.out _).mono ?_; rintro r w3 ⟨rfl, f3⟩)
        go_roundw
        case rel => exact ⟨k + 1, by omega, by go_num, HT, HR.out.trans0 f3⟩
        case measure => simp [intOf]; omega
      · have h2b : e.ok = false := by simpa using h2
        have HT : Hid (m.ents.any (fun e => !e.ok) = true) := by rw [HI.out, HS.out, h2b]; rfl
        rw [h2b] at HL
        clear h2 h2b
        go_wp2_with (go_at_call 32; refine (HL.out _).mono ?_; rintro r w3 ⟨rfl, f3⟩)
        go_ret
        refine ⟨ret_bool ?_, (HF2.out.trans0 HR.out).trans0 f3⟩
        rw [HT.out]
        unfold okMR
        simp
    · have HE : Hid (m.ents.any (fun e => !e.ok) = false) := by
        rw [HI.out, List.drop_of_length_le (by rw [HNn.out]; omega)]; rfl
      go_wp2_with (go_at_call 60; refine (HH.out _ _).mono ?_; rintro r w' ⟨rfl, rfl⟩)
      all_goals go_ret
      all_goals refine ⟨ret_bool ?_, HF2.out.trans0 HR.out⟩
      all_goals rw [HE.out]
      all_goals clear HC2 HV2 HF2 HH hfe HNn HE HI HR
      all_goals clear c1 c2 c4 c5 c6 c7 c8 c9 c10 hs qi qp qt qk qy qe qs
      all_goals symm
      all_goals unfold okMR
      all_goals first | (simp [*]; done) | (simp; omega) | (simp [*]; omega) | grind | (rw [Bool.eq_iff_iff]; simp [List.isEmpty_iff] at *; grind)
end Go.Proofs.YthfaaoeecajkeaaDoor

namespace Go.Proofs.YthfaaoeecajkeaaDoor
open Go.RowKit

set_option maxRecDepth 100000 in
set_option maxHeartbeats 8000000 in
theorem rMsgRight_iyk (m : Msg) (v : Value) (may : ByteArray) (w : World) (hf : m.Fits) (hv : Ents w v m.ents) (hkind : msgMay m.kind = (may, true)) (hs : may.size ≤ maxLen) (qi : hasI may 105 = true) (qp : hasI may 112 = false) (qt : hasI may 116 = false) (qk : hasI may 107 = true) (qy : hasI may 121 = true) (qe : hasI may 101 = false) (qs : hasI may 115 = false) :
    Calls Tryd.prog 45 #[.agg (m.cells v)] w fun r w' => r = .returned (.bool (okMR true false false true true false false m.ents.length (m.ents.any (fun e => !e.ok)) m)) ∧ Fr [] w w' := by
  obtain ⟨ad, cp, rfl⟩ := hv.shape
  have hmany := hf.many
  have hfe := Lib.hid hf.ents
  obtain ⟨hT, hI, hP, hC, hK, _, _, hS⟩ := hf
  unfold U64 maxLen at *
  have HF := Lib.hid (rMsgFields m.kind)
  rw [hkind] at HF
  clear hkind
  have HH := Lib.hid (fun c w => rHas may c w hs)
  have HBm := fun w2 (f : Fr [] (w.alloc (.cells (m.cells (.slice ad m.ents.length cp)) 47)) w2) => (Blk.new w (m.cells (.slice ad m.ents.length cp)) 47).fr0 f
  have HM := Lib.hid HBm
  have HV := Lib.hid (hv.fr0 ((Fr.refl [] w).alloc (.cells (m.cells (.slice ad m.ents.length cp)) 47)))
  have HF0 : Hid (Fr [] w (w.alloc (.cells (m.cells (.slice ad m.ents.length cp)) 47))) := (Fr.refl _ _).alloc _
  have HC := Lib.hid (fun w2 f => msgC (HBm w2 f))
  clear HBm hv HM
  unfold Msg.cells at *
  generalize hn : m.ents.length = n at *
  have HNn := Lib.hid hn
  clear hn
  go_enter Tryd.func45, Tryd.ntmps45
  go_wp2_with fail
  refine (HF.out _).mono ?_
  rintro r w2 ⟨rfl, g2⟩
  obtain ⟨c1, c2, c4, c5, c6, c7, c8, c9, c10⟩ := HC.out _ g2
  have HC2 := Lib.hid (fun w3 (f : Fr [] w2 w3) => HC.out w3 (g2.trans0 f))
  have HV2 := Lib.hid (HV.out.fr0 g2)
  have HF2 : Hid (Fr [] w w2) := HF0.out.trans0 g2
  clear HC HV HF0 g2 HF
  generalize w.heap.size = bx at *
  go_wp2_with fail
  all_goals first
    | (go_ret; refine ⟨?_, HF2.out⟩; refine ret_bool ?_; clear HC2 HV2 HF2 HH hfe HNn; symm; unfold okMR; simp; omega)
    | skip
  clear c1 c2 c4 c5 c6 c7 c8 c9 c10
  go_loopw [5] (fun i wr => ∃ k : Nat, k ≤ n ∧ i = .int .i64 k ∧ Hid (m.ents.any (fun e => !e.ok) = (m.ents.drop k).any (fun e => !e.ok)) ∧ Hid (Fr [] w2 wr)) (fun i _ => n - (intOf i).toNat)
  case atStart => exact ⟨0, by omega, rfl, rfl, Fr.refl _ _⟩
  case round =>
    obtain ⟨k, hk, rfl, HI, HR⟩ := hrel
    obtain ⟨c1, c2, c4, c5, c6, c7, c8, c9, c10⟩ := HC2.out _ HR.out
    by_cases hlt : k < n
    · obtain ⟨b, o, had⟩ : ∃ b o, ad = some ⟨b, o, none⟩ := by
        rcases HV2.out with ⟨h1, _⟩ | ⟨b, o, c, h1, _⟩
        · have := HNn.out; rw [h1] at this; simp at this; omega
        · injection h1 with h1; exact ⟨b, o, h1⟩
      subst had
      have hlk : k < m.ents.length := by have := HNn.out; omega
      have hrow := (HV2.out.fr0 HR.out).row HNn.out (by omega)
      obtain ⟨e, he⟩ : ∃ e, m.ents[k] = e := ⟨_, rfl⟩
      obtain ⟨d0, d1, d2, d3, d4, d5, d6, d7, d8, d9, d10⟩ := entCells hrow.2 hlk he
      have HS := Lib.hid (any_step (p := fun e => !e.ok) hlk)
      rw [he] at HS
      have HL := Lib.hid (fun w => rRight e w (hfe.out e (by rw [← he]; exact List.getElem_mem _)))
      unfold Ent.cells at HL
      clear he hrow hlk
      by_cases h2 : e.ok = true
      · have HT : Hid (m.ents.any (fun e => !e.ok) = (m.ents.drop (k + 1)).any (fun e => !e.ok)) := by rw [HI.out, HS.out, h2]; rfl
        rw [h2] at HL
        clear h2
        go_wp2_with (go_at_call 32; refine (HL.out _).mono ?_; rintro r w3 ⟨rfl, f3⟩)
        go_roundw
        case rel => exact ⟨k + 1, by omega, by go_num, HT, HR.out.trans0 f3⟩
        case measure => simp [intOf]; omega
      · have h2b : e.ok = false := by simpa using h2
        have HT : Hid (m.ents.any (fun e => !e.ok) = true) := by rw [HI.out, HS.out, h2b]; rfl
        rw [h2b] at HL
        clear h2 h2b
        go_wp2_with (go_at_call 32; refine (HL.out _).mono ?_; rintro r w3 ⟨rfl, f3⟩)
        go_ret
        refine ⟨ret_bool ?_, (HF2.out.trans0 HR.out).trans0 f3⟩
        rw [HT.out]
        unfold okMR
        simp
    · have HE : Hid (m.ents.any (fun e => !e.ok) = false) := by
        rw [HI.out, List.drop_of_length_le (by rw [HNn.out]; omega)]; rfl
      go_wp2_with (go_at_call 60; refine (HH.out _ _).mono ?_; rintro r w' ⟨rfl, rfl⟩)
      all_goals go_ret
      all_goals refine ⟨ret_bool ?_, HF2.out.trans0 HR.out⟩
      all_goals rw [HE.out]
      all_goals clear HC2 HV2 HF2 HH hfe HNn HE HI HR
      all_goals clear c1 c2 c4 c5 c6 c7 c8 c9 c10 hs qi qp qt qk qy qe qs
      all_goals symm
      all_goals unfold okMR
      all_goals first | (simp [*]; done) | (simp; omega) | (simp [*]; omega) | grind | (rw [Bool.eq_iff_iff]; simp [List.isEmpty_iff] at *; grind)
end Go.Proofs.YthfaaoeecajkeaaDoor
