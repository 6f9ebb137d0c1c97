/-
  Texts of this seat, joined: RMr5 RMr6 RMr7 RMsg.
-/
import Derived.Test.YthfaaoeecajkeaaDoorW21
import Derived.Test.YthfaaoeecajkeaaDoorW22
set_option linter.unusedSimpArgs false
set_option linter.unusedVariables false
namespace Go.Proofs.YthfaaoeecajkeaaDoor
open Go.RowKit

set_option maxRecDepth 100000 in
set_option maxHeartbeats 8000000 in
theorem rMsgRight_ips (m : Msg) (v : Value) (may : ByteArray) (w : World) (hf : m.Fits) (hv : Ents w v m.ents) (hkind : msgMay m.kind = (may, true)) (hs : may.size ≤ maxLen) (qi : hasI may 105 = true) (qp : hasI may 112 = true) (qt : hasI may 116 = false) (qk : hasI may 107 = false) (qy : hasI may 121 = false) (qe : hasI may 101 = false) (qs : hasI may 115 = true) :
    Calls Tryd.prog 45 #[.agg (m.cells v)] w fun r w' => r = .returned (.bool (okMR true true false false false false true m.ents.length (m.ents.any (fun e => !e.ok)) m)) ∧ Fr [] w w' := by
  obtain ⟨ad, cp, rfl⟩ := hv.shape
  have hmany := hf.many
  have hfe := Lib.hid hf.ents
  obtain ⟨hT, hI, hP, hC, hK, _, _, hS⟩ := hf
  unfold U64 maxLen at *
  have HF := Lib.hid (rMsgFields m.kind)
  rw [hkind] at HF
  clear hkind
  have HH := Lib.hid (fun c w => rHas may c w hs)
  have HBm := fun w2 (f : Fr [] (w.alloc (.cells (m.cells (.slice ad m.ents.length cp)) 47)) w2) => (Blk.new w (m.cells (.slice ad m.ents.length cp)) 47).fr0 f
  have HM := Lib.hid HBm
  have HV := Lib.hid (hv.fr0 ((Fr.refl [] w).alloc (.cells (m.cells (.slice ad m.ents.length cp)) 47)))
  have HF0 : Hid (Fr [] w (w.alloc (.cells (m.cells (.slice ad m.ents.length cp)) 47))) := (Fr.refl _ _).alloc _
  have HC := Lib.hid (fun w2 f => msgC (HBm w2 f))
  clear HBm hv HM
  unfold Msg.cells at *
  generalize hn : m.ents.length = n at *
  have HNn := Lib.hid hn
  clear hn
  go_enter Tryd.func45, Tryd.ntmps45
  go_wp2_with fail
  refine (HF.out _).mono ?_
  rintro r w2 ⟨rfl, g2⟩
  obtain ⟨c1, c2, c4, c5, c6, c7, c8, c9, c10⟩ := HC.out _ g2
  have HC2 := Lib.hid (fun w3 (f : Fr [] w2 w3) => HC.out w3 (g2.trans0 f))
  have HV2 := Lib.hid (HV.out.fr0 g2)
  have HF2 : Hid (Fr [] w w2) := HF0.out.trans0 g2
  clear HC HV HF0 g2 HF
  generalize w.heap.size = bx at *
  go_wp2_with fail
  all_goals first
    | (go_ret; refine ⟨?_, HF2.out⟩; refine ret_bool ?_; clear HC2 HV2 HF2 HH hfe HNn; symm; unfold okMR; simp; omega)
    | skip
  clear c1 c2 c4 c5 c6 c7 c8 c9 c10
  go_loopw [5] (fun i wr => ∃ k : Nat, k ≤ n ∧ i = .int .i64 k ∧ Hid (m.ents.any (fun e => !e.ok) = (m.ents.drop k).any (fun e => !e.ok)) ∧ Hid (Fr [] w2 wr)) (fun i _ => n - (intOf i).toNat)
  case atStart => exact ⟨0, by omega, rfl, rfl, Fr.refl _ _⟩
  case round =>
    obtain ⟨k, hk, rfl, HI, HR⟩ := hrel
    obtain ⟨c1, c2, c4, c5, c6, c7, c8, c9, c10⟩ := HC2.out _ HR.out
    by_cases hlt : k < n
    · obtain ⟨b, o, had⟩ : ∃ b o, ad = some ⟨b, o, none⟩ := by
        rcases HV2.out with ⟨h1, _⟩ | ⟨b, o, c, h1, _⟩
        · have := HNn.out; rw [h1] at this; simp at this; omega
        · injection h1 with h1; exact ⟨b, o, h1⟩
      subst had
      have hlk : k < m.ents.length := by have := HNn.out; omega
      have hrow := (HV2.out.fr0 HR.out).row HNn.out (by omega)
      obtain ⟨e, he⟩ : ∃ e, m.ents[k] = e := ⟨_, rfl⟩
      obtain ⟨d0, d1, d2, d3, d4, d5, d6, d7, d8, d9, d10⟩ := entCells hrow.2 hlk he
      have HS := Lib.hid (any_step (p := fun e => !e.ok) hlk)
      rw [he] at HS
      have HL := Lib.hid (fun w => rRight e w (hfe.out e (by rw [← he]; exact List.getElem_mem _)))
      unfold Ent.cells at HL
      clear he hrow hlk
      by_cases h2 : e.ok = true
      · have HT : Hid (m.ents.any (fun e => !e.ok) = (m.ents.drop (k + 1)).any (fun e => !e.ok)) := by rw [HI.out, HS.out, h2]; rfl
        rw [h2] at HL
        clear h2
        go_wp2_with (go_at_call 32; refine (HL.out _).mono ?_; rintro r w3 ⟨rfl, f3⟩)
        go_roundw
        case rel => exact ⟨k + 1, by omega, by go_num, HT, HR.out.trans0 f3⟩
        case measure => simp [intOf]; omega
      · have h2b : e.ok = false := by simpa using h2
        have HT : Hid (m.ents.any (fun e => !e.ok) = true) := by rw [HI.out, HS.out, h2b]; rfl
        rw [h2b] at HL
        clear h2 h2b
        go_wp2_with (go_at_call 32; refine (HL.out _).mono ?_; rintro r w3 ⟨rfl, f3⟩)
        go_ret
        refine ⟨ret_bool ?_, (HF2.out.trans0 HR.out).trans0 f3⟩
        rw [HT.out]
        unfold okMR
        simp
    · have HE : Hid (m.ents.any (fun e => !e.ok) = false) := by
        rw [HI.out, List.drop_of_length_le (by rw [HNn.out]; omega)]; rfl
      go_wp2_with (go_at_call 60; refine (HH.out _ _).mono ?_; rintro r w' ⟨rfl, rfl⟩)
      all_goals go_ret
      all_goals refine ⟨ret_bool ?_, HF2.out.trans0 HR.out⟩
      all_goals rw [HE.out]
      all_goals clear HC2 HV2 HF2 HH hfe HNn HE HI HR
      all_goals clear c1 c2 c4 c5 c6 c7 c8 c9 c10 hs qi qp qt qk qy qe qs
      all_goals symm
      all_goals unfold okMR
      all_goals first | (simp [*]; done) | (simp; omega) | (simp [*]; omega) | grind | (rw [Bool.eq_iff_iff]; simp [List.isEmpty_iff] at *; grind)
end Go.Proofs.YthfaaoeecajkeaaDoor

namespace Go.Proofs.YthfaaoeecajkeaaDoor
open Go.RowKit

set_option maxRecDepth 100000 in
set_option maxHeartbeats 8000000 in
theorem rMsgRight_i (m : Msg) (v : Value) (may : ByteArray) (w : World) (hf : m.Fits) (hv : Ents w v m.ents) (hkind : msgMay m.kind = (may, true)) (hs : may.size ≤ maxLen) (qi : hasI may 105 = true) (qp : hasI may 112 = false) (qt : hasI may 116 = false) (qk : hasI may 107 = false) (qy : hasI may 121 = false) (qe : hasI may 101 = false) (qs : hasI may 115 = false) :
    Calls Tryd.prog 45 #[.agg (m.cells v)] w fun r w' => r = .returned (.bool (okMR true false false false false false false m.ents.length (m.ents.any (fun e => !e.ok)) m)) ∧ Fr [] w w' := by
  obtain ⟨ad, cp, rfl⟩ := hv.shape
  have hmany := hf.many
  have hfe := Lib.hid hf.ents
  obtain ⟨hT, hI, hP, hC, hK, _, _, hS⟩ := hf
  unfold U64 maxLen at *
  have HF := Lib.hid (rMsgFields m.kind)
  rw [hkind] at HF
  clear hkind
  have HH := Lib.hid (fun c w => rHas may c w hs)
  have HBm := fun w2 (f : Fr [] (w.alloc (.cells (m.cells (.slice ad m.ents.length cp)) 47)) w2) => (Blk.new w (m.cells (.slice ad m.ents.length cp)) 47).fr0 f
  have HM := Lib.hid HBm
  have HV := Lib.hid (hv.fr0 ((Fr.refl [] w).alloc (.cells (m.cells (.slice ad m.ents.length cp)) 47)))
  have HF0 : Hid (Fr [] w (w.alloc (.cells (m.cells (.slice ad m.ents.length cp)) 47))) := (Fr.refl _ _).alloc _
  have HC := Lib.hid (fun w2 f => msgC (HBm w2 f))
  clear HBm hv HM
  unfold Msg.cells at *
  generalize hn : m.ents.length = n at *
  have HNn := Lib.hid hn
  clear hn
  go_enter Tryd.func45, Tryd.ntmps45
  go_wp2_with fail
  refine (HF.out _).mono ?_
  rintro r w2 ⟨rfl, g2⟩
  obtain ⟨c1, c2, c4, c5, c6, c7, c8, c9, c10⟩ := HC.out _ g2
  have HC2 := Lib.hid (fun w3 (f : Fr [] w2 w3) => HC.out w3 (g2.trans0 f))
  have HV2 := Lib.hid (HV.out.fr0 g2)
  have HF2 : Hid (Fr [] w w2) := HF0.out.trans0 g2
  clear HC HV HF0 g2 HF
  generalize w.heap.size = bx at *
  go_wp2_with fail
  all_goals first
    | (go_ret; refine ⟨?_, HF2.out⟩; refine ret_bool ?_; clear HC2 HV2 HF2 HH hfe HNn; symm; unfold okMR; simp; omega)
    | skip
  clear c1 c2 c4 c5 c6 c7 c8 c9 c10
  go_loopw [5] (fun i wr => ∃ k : Nat, k ≤ n ∧ i = .int .i64 k ∧ Hid (m.ents.any (fun e => !e.ok) = (m.ents.drop k).any (fun e => !e.ok)) ∧ Hid (Fr [] w2 wr)) (fun i _ => n - (intOf i).toNat)
  case atStart => exact ⟨0, by omega, rfl, rfl, Fr.refl _ _⟩
  case round =>
    obtain ⟨k, hk, rfl, HI, HR⟩ := hrel
    obtain ⟨c1, c2, c4, c5, c6, c7, c8, c9, c10⟩ := HC2.out _ HR.out
    by_cases hlt : k < n
    · obtain ⟨b, o, had⟩ : ∃ b o, ad = some ⟨b, o, none⟩ := by
        rcases HV2.out with ⟨h1, _⟩ | ⟨b, o, c, h1, _⟩
        · have := HNn.out; rw [h1] at this; simp at this; omega
        · injection h1 with h1; exact ⟨b, o, h1⟩
      subst had
      have hlk : k < m.ents.length := by have := HNn.out; omega
      have hrow := (HV2.out.fr0 HR.out).row HNn.out (by omega)
      obtain ⟨e, he⟩ : ∃ e, m.ents[k] = e := ⟨_, rfl⟩
      obtain ⟨d0, d1, d2, d3, d4, d5, d6, d7, d8, d9, d10⟩ := entCells hrow.2 hlk he
      have HS := Lib.hid (any_step (p := fun e => !e.ok) hlk)
      rw [he] at HS
      have HL := Lib.hid (fun w => rRight e w (hfe.out e (by rw [← he]; exact List.getElem_mem _)))
      unfold Ent.cells at HL
      clear he hrow hlk
      by_cases h2 : e.ok = true
      · have HT : Hid (m.ents.any (fun e => !e.ok) = (m.ents.drop (k + 1)).any (fun e => !e.ok)) := by rw [HI.out, HS.out, h2]; rfl
        rw [h2] at HL
        clear h2
        go_wp2_with (go_at_call 32; refine (HL.out _).mono ?_; rintro r w3 ⟨rfl, f3⟩)
        go_roundw
        case rel => exact ⟨k + 1, by omega, by go_num, HT, HR.out.trans0 f3⟩
        case measure => simp [intOf]; omega
      · have h2b : e.ok = false := by simpa using h2
        have HT : Hid (m.ents.any (fun e => !e.ok) = true) := by rw [HI.out, HS.out, h2b]; rfl
        rw [h2b] at HL
        clear h2 h2b
        go_wp2_with (go_at_call 32; refine (HL.out _).mono ?_; rintro r w3 ⟨rfl, f3⟩)
        go_ret
        refine ⟨ret_bool ?_, (HF2.out.trans0 HR.out).trans0 f3⟩
        rw [HT.out]
        unfold okMR
        simp
    · have HE : Hid (m.ents.any (fun e => !e.ok) = false) := by
        rw [HI.out, List.drop_of_length_le (by rw [HNn.out]; omega)]; rfl
      go_wp2_with (go_at_call 60; refine (HH.out _ _).mono ?_; rintro r w' ⟨rfl, rfl⟩)
      all_goals go_ret
      all_goals refine ⟨ret_bool ?_, HF2.out.trans0 HR.out⟩
      all_goals rw [HE.out]
      all_goals clear HC2 HV2 HF2 HH hfe HNn HE HI HR
      all_goals clear c1 c2 c4 c5 c6 c7 c8 c9 c10 hs qi qp qt qk qy qe qs
      all_goals symm
      all_goals unfold okMR
      all_goals first | (simp [*]; done) | (simp; omega) | (simp [*]; omega) | grind | (rw [Bool.eq_iff_iff]; simp [List.isEmpty_iff] at *; grind)
end Go.Proofs.YthfaaoeecajkeaaDoor

namespace Go.Proofs.YthfaaoeecajkeaaDoor
open Go.RowKit

set_option maxRecDepth 100000 in
set_option maxHeartbeats 8000000 in
theorem rMsgRight_k (m : Msg) (v : Value) (may : ByteArray) (w : World) (hf : m.Fits) (hv : Ents w v m.ents) (hkind : msgMay m.kind = (may, true)) (hs : may.size ≤ maxLen) (qi : hasI may 105 = false) (qp : hasI may 112 = false) (qt : hasI may 116 = false) (qk : hasI may 107 = true) (qy : hasI may 121 = false) (qe : hasI may 101 = false) (qs : hasI may 115 = false) :
    Calls Tryd.prog 45 #[.agg (m.cells v)] w fun r w' => r = .returned (.bool (okMR false false false true false false false m.ents.length (m.ents.any (fun e => !e.ok)) m)) ∧ Fr [] w w' := by
  obtain ⟨ad, cp, rfl⟩ := hv.shape
  have hmany := hf.many
  have hfe := Lib.hid hf.ents
  obtain ⟨hT, hI, hP, hC, hK, _, _, hS⟩ := hf
  unfold U64 maxLen at *
  have HF := Lib.hid (rMsgFields m.kind)
  rw [hkind] at HF
  clear hkind
  have HH := Lib.hid (fun c w => rHas may c w hs)
  have HBm := fun w2 (f : Fr [] (w.alloc (.cells (m.cells (.slice ad m.ents.length cp)) 47)) w2) => (Blk.new w (m.cells (.slice ad m.ents.length cp)) 47).fr0 f
  have HM := Lib.hid HBm
  have HV := Lib.hid (hv.fr0 ((Fr.refl [] w).alloc (.cells (m.cells (.slice ad m.ents.length cp)) 47)))
  have HF0 : Hid (Fr [] w (w.alloc (.cells (m.cells (.slice ad m.ents.length cp)) 47))) := (Fr.refl _ _).alloc _
  have HC := Lib.hid (fun w2 f => msgC (HBm w2 f))
  clear HBm hv HM
  unfold Msg.cells at *
  generalize hn : m.ents.length = n at *
  have HNn := Lib.hid hn
  clear hn
  go_enter Tryd.func45, Tryd.ntmps45
  go_wp2_with fail
  refine (HF.out _).mono ?_
  rintro r w2 ⟨rfl, g2⟩
  obtain ⟨c1, c2, c4, c5, c6, c7, c8, c9, c10⟩ := HC.out _ g2
  have HC2 := Lib.hid (fun w3 (f : Fr [] w2 w3) => HC.out w3 (g2.trans0 f))
  have HV2 := Lib.hid (HV.out.fr0 g2)
  have HF2 : Hid (Fr [] w w2) := HF0.out.trans0 g2
  clear HC HV HF0 g2 HF
  generalize w.heap.size = bx at *
  go_wp2_with fail
  all_goals first
    | (go_ret; refine ⟨?_, HF2.out⟩; refine ret_bool ?_; clear HC2 HV2 HF2 HH hfe HNn; symm; unfold okMR; simp; omega)
    | skip
  clear c1 c2 c4 c5 c6 c7 c8 c9 c10
  go_loopw [5] (fun i wr => ∃ k : Nat, k ≤ n ∧ i = .int .i64 k ∧ Hid (m.ents.any (fun e => !e.ok) = (m.ents.drop k).any (fun e => !e.ok)) ∧ Hid (Fr [] w2 wr)) (fun i _ => n - (intOf i).toNat)
  case atStart => exact ⟨0, by omega, rfl, rfl, Fr.refl _ _⟩
  case round =>
    obtain ⟨k, hk, rfl, HI, HR⟩ := hrel
    obtain ⟨c1, c2, c4, c5, c6, c7, c8, c9, c10⟩ := HC2.out _ HR.out
    by_cases hlt : k < n
    · obtain ⟨b, o, had⟩ : ∃ b o, ad = some ⟨b, o, none⟩ := by
        rcases HV2.out with ⟨h1, _⟩ | ⟨b, o, c, h1, _⟩
        · have := HNn.out; rw [h1] at this; simp at this; omega
        · injection h1 with h1; exact ⟨b, o, h1⟩
      subst had
      have hlk : k < m.ents.length := by have := HNn.out; omega
      have hrow := (HV2.out.fr0 HR.out).row HNn.out (by omega)
      obtain ⟨e, he⟩ : ∃ e, m.ents[k] = e := ⟨_, rfl⟩
      obtain ⟨d0, d1, d2, d3, d4, d5, d6, d7, d8, d9, d10⟩ := entCells hrow.2 hlk he
      have HS := Lib.hid (any_step (p := fun e => !e.ok) hlk)
      rw [he] at HS
      have HL := Lib.hid (fun w => rRight e w (hfe.out e (by rw [← he]; exact List.getElem_mem _)))
      unfold Ent.cells at HL
      clear he hrow hlk
      by_cases h2 : e.ok = true
      · have HT : Hid (m.ents.any (fun e => !e.ok) = (m.ents.drop (k + 1)).any (fun e => !e.ok)) := by rw [HI.out, HS.out, h2]; rfl
        rw [h2] at HL
        clear h2
        go_wp2_with (go_at_call 32; refine (HL.out _).mono ?_; rintro r w3 ⟨rfl, f3⟩)
        go_roundw
        case rel => exact ⟨k + 1, by omega, by go_num, HT, HR.out.trans0 f3⟩
        case measure => simp [intOf]; omega
      · have h2b : e.ok = false := by simpa using h2
        have HT : Hid (m.ents.any (fun e => !e.ok) = true) := by rw [HI.out, HS.out, h2b]; rfl
        rw [h2b] at HL
        clear h2 h2b
        go_wp2_with (go_at_call 32; refine (HL.out _).mono ?_; rintro r w3 ⟨rfl, f3⟩)
        go_ret
        refine ⟨ret_bool ?_, (HF2.out.trans0 HR.out).trans0 f3⟩
        rw [HT.out]
        unfold okMR
        simp
    · have HE : Hid (m.ents.any (fun e => !e.ok) = false) := by
        rw [HI.out, List.drop_of_length_le (by rw [HNn.out]; omega)]; rfl
      go_wp2_with (go_at_call 60; refine (HH.out _ _).mono ?_; rintro r w' ⟨rfl, rfl⟩)
      all_goals go_ret
      all_goals refine ⟨ret_bool ?_, HF2.out.trans0 HR.out⟩
      all_goals rw [HE.out]
      all_goals clear HC2 HV2 HF2 HH hfe HNn HE HI HR
      all_goals clear c1 c2 c4 c5 c6 c7 c8 c9 c10 hs qi qp qt qk qy qe qs
      all_goals symm
      all_goals unfold okMR
      all_goals first | (simp [*]; done) | (simp; omega) | (simp [*]; omega) | grind | (rw [Bool.eq_iff_iff]; simp [List.isEmpty_iff] at *; grind)
end Go.Proofs.YthfaaoeecajkeaaDoor

namespace Go.Proofs.YthfaaoeecajkeaaDoor
open Go.RowKit

set_option maxRecDepth 100000 in
set_option maxHeartbeats 4000000 in
theorem rMsgRight_bad (m : Msg) (v : Value) (w : World) (hv : Ents w v m.ents) (hkind : (msgMay m.kind).2 = false) : Calls Tryd.prog 45 #[.agg (m.cells v)] w fun r w' => r = .returned (.bool false) ∧ Fr [] w w' := by
  obtain ⟨ad, cp, rfl⟩ := hv.shape
  have HF := Lib.hid (rMsgFields m.kind)
  rw [hkind] at HF
  clear hkind hv
  generalize (msgMay m.kind).1 = may at *
  unfold Msg.cells
  go_enter Tryd.func45, Tryd.ntmps45
  go_wp2_with fail
  refine (HF.out _).mono ?_
  rintro r w2 ⟨rfl, g2⟩
  have HF0 : Hid (Fr [] w w2) := ((Fr.refl _ _).alloc _).trans0 g2
  clear g2
  go_wp2_with fail
  go_ret
  exact ⟨rfl, HF0.out⟩

/-- The program's own answer, by what is in a kind's letters. -/
def okMP (bi bp bt bk by' be bs : Bool) (n : Nat) (bad : Bool) (m : Msg) : Bool :=
  nodeB m.sent && nodeB m.goal && (if bi then true else !decide (0 < m.index)) && (if bp then true else !decide (0 < m.prev)) && (if bt then true else !decide (0 < m.commit)) && (if bk then true else !decide (0 < m.mark)) && (if by' then true else !m.yes) &&
  (if be then decide (n ≤ 64) && !bad else !decide (0 < n)) && (if bs then decide ((m.snap.size : Int) ≤ 16384) else m.snap.toList.isEmpty)

theorem empty_short2 {s : ByteArray} (h : s.toList.isEmpty = true) : decide ((s.size : Int) ≤ 16384) = true := by
  rw [List.isEmpty_iff, Lib.toList_data] at h
  have : s.size = 0 := by rw [Lib.size_eq, h]; rfl
  simp [this]

theorem okMRP (bi bp bt bk by' be bs : Bool) (n : Nat) (bad : Bool) (m : Msg) (hb : n = 0 → bad = false) : okMR bi bp bt bk by' be bs n bad m = okMP bi bp bt bk by' be bs n bad m := by
  have h1 : nodeB m.sent = (!decide (m.sent < 1) && !decide (7 < m.sent)) := by unfold nodeB; rw [Bool.eq_iff_iff]; simp
  have h2 : nodeB m.goal = (!decide (m.goal < 1) && !decide (7 < m.goal)) := by unfold nodeB; rw [Bool.eq_iff_iff]; simp
  have h3 : decide (64 < n) = !decide (n ≤ 64) := by rw [Bool.eq_iff_iff]; simp
  have h4 : (n == 0) = !decide (0 < n) := by rw [Bool.eq_iff_iff]; simp
  have h5 : decide (0 < n) = false → bad = false := fun h => hb (by simpa using h)
  have h6 : decide (0 < n) = false → decide (n ≤ 64) = true := by simp; omega
  have h7 : decide ((16384 : Int) < m.snap.size) = !decide ((m.snap.size : Int) ≤ 16384) := by rw [Bool.eq_iff_iff]; simp
  have h8 := empty_short2 (s := m.snap)
  unfold okMR okMP
  rw [h1, h2, h3, h4, h7]
  clear h1 h2 h3 h4 h7 hb
  generalize decide (m.sent < 1) = a1 at *
  generalize decide (7 < m.sent) = a2 at *
  generalize decide (m.goal < 1) = a3 at *
  generalize decide (7 < m.goal) = a4 at *
  generalize decide (n ≤ 64) = a5 at *
  generalize decide (0 < n) = a6 at *
  generalize decide ((m.snap.size : Int) ≤ 16384) = a7 at *
  generalize m.snap.toList.isEmpty = a8 at *
  generalize decide (0 < m.index) = b1 at *
  generalize decide (0 < m.prev) = b2 at *
  generalize decide (0 < m.commit) = b3 at *
  generalize decide (0 < m.mark) = b4 at *
  generalize m.yes = b5 at *
  cases a1 <;> cases a2 <;> cases a3 <;> cases a4 <;> simp_all <;> cases be <;> cases a5 <;> cases a6 <;> cases a7 <;> cases a8 <;> cases bs <;> simp_all <;> cases bi <;> cases bp <;> cases bt <;> cases bk <;> cases by' <;> simp_all <;> (first | rfl | ac_rfl | grind)

theorem okM_class {m : Msg} {may : ByteArray} {bi bp bt bk by' be bs : Bool} (hkind : msgMay m.kind = (may, true)) (hi : hasB may 105 = bi) (hp : hasB may 112 = bp) (ht : hasB may 116 = bt) (hk : hasB may 107 = bk) (hy : hasB may 121 = by') (he : hasB may 101 = be) (hs : hasB may 115 = bs) :
    m.ok = okMP bi bp bt bk by' be bs m.ents.length (m.ents.any (fun e => !e.ok)) m := by
  unfold Msg.ok fitB Msg.flds okMP
  rw [hkind]
  simp only [List.any_cons, List.any_nil, Fld.bad, hi, hp, ht, hk, hy, he, hs]
  generalize m.snap.toList.isEmpty = x1
  generalize decide (0 < m.index) = x3
  generalize decide (0 < m.prev) = x4
  generalize decide (0 < m.commit) = x5
  generalize decide (0 < m.mark) = x6
  generalize m.yes = x7
  generalize nodeB m.sent = x8
  generalize nodeB m.goal = x9
  generalize decide (m.ents.length ≤ 64) = y1
  generalize decide (0 < m.ents.length) = y2
  generalize m.ents.any (fun e => !e.ok) = y3
  generalize decide ((m.snap.size : Int) ≤ 16384) = y4
  cases bi <;> cases bp <;> cases bt <;> cases bk <;> cases by' <;> cases be <;> cases bs <;> simp [Bool.and_assoc, Bool.and_comm, Bool.and_left_comm]

theorem rMsgRight (m : Msg) (v : Value) (w : World) (hf : m.Fits) (hv : Ents w v m.ents) : Calls Tryd.prog 45 #[.agg (m.cells v)] w fun r w' => r = .returned (.bool m.ok) ∧ Fr [] w w' := by
  have hb : m.ents.length = 0 → m.ents.any (fun e => !e.ok) = false := fun h => by rw [List.eq_nil_of_length_eq_zero h]; rfl
  by_cases h : 1 ≤ m.kind ∧ m.kind ≤ 10
  · have : m.kind = 1 ∨ m.kind = 2 ∨ m.kind = 3 ∨ m.kind = 4 ∨ m.kind = 5 ∨ m.kind = 6 ∨ m.kind = 7 ∨ m.kind = 8 ∨ m.kind = 9 ∨ m.kind = 10 := by omega
    rcases this with hk | hk | hk | hk | hk | hk | hk | hk | hk | hk
    all_goals
      first
        | (have hm : msgMay m.kind = (⟨#[105, 112]⟩, true) := by (rw [hk]; rfl)
           rw [okM_class hm rfl rfl rfl rfl rfl rfl rfl, ← okMRP _ _ _ _ _ _ _ _ _ m hb]; exact rMsgRight_ip m v _ w hf hv hm (by decide) rfl rfl rfl rfl rfl rfl rfl)
        | (have hm : msgMay m.kind = (⟨#[121]⟩, true) := by (rw [hk]; rfl)
           rw [okM_class hm rfl rfl rfl rfl rfl rfl rfl, ← okMRP _ _ _ _ _ _ _ _ _ m hb]; exact rMsgRight_y m v _ w hf hv hm (by decide) rfl rfl rfl rfl rfl rfl rfl)
        | (have hm : msgMay m.kind = (⟨#[105, 112, 116, 101, 107]⟩, true) := by (rw [hk]; rfl)
           rw [okM_class hm rfl rfl rfl rfl rfl rfl rfl, ← okMRP _ _ _ _ _ _ _ _ _ m hb]; exact rMsgRight_iptek m v _ w hf hv hm (by decide) rfl rfl rfl rfl rfl rfl rfl)
        | (have hm : msgMay m.kind = (⟨#[105, 121, 107]⟩, true) := by (rw [hk]; rfl)
           rw [okM_class hm rfl rfl rfl rfl rfl rfl rfl, ← okMRP _ _ _ _ _ _ _ _ _ m hb]; exact rMsgRight_iyk m v _ w hf hv hm (by decide) rfl rfl rfl rfl rfl rfl rfl)
        | (have hm : msgMay m.kind = (⟨#[105, 112, 115]⟩, true) := by (rw [hk]; rfl)
           rw [okM_class hm rfl rfl rfl rfl rfl rfl rfl, ← okMRP _ _ _ _ _ _ _ _ _ m hb]; exact rMsgRight_ips m v _ w hf hv hm (by decide) rfl rfl rfl rfl rfl rfl rfl)
        | (have hm : msgMay m.kind = (⟨#[105]⟩, true) := by (rw [hk]; rfl)
           rw [okM_class hm rfl rfl rfl rfl rfl rfl rfl, ← okMRP _ _ _ _ _ _ _ _ _ m hb]; exact rMsgRight_i m v _ w hf hv hm (by decide) rfl rfl rfl rfl rfl rfl rfl)
        | (have hm : msgMay m.kind = (⟨#[107]⟩, true) := by (rw [hk]; rfl)
           rw [okM_class hm rfl rfl rfl rfl rfl rfl rfl, ← okMRP _ _ _ _ _ _ _ _ _ m hb]; exact rMsgRight_k m v _ w hf hv hm (by decide) rfl rfl rfl rfl rfl rfl rfl)
  · have hn : (msgMay m.kind).2 = false := by
      unfold msgMay
      repeat rw [if_neg (by omega)]
    have : m.ok = false := by unfold Msg.ok; rw [hn]; rfl
    rw [this]
    exact rMsgRight_bad m v w hv hn
end Go.Proofs.YthfaaoeecajkeaaDoor
