/-
  Texts of this seat, joined: GFm.
-/
import Derived.Test.YthfaaoeecajkeaaDoorRows
import Derived.Test.YthfaaoeecajkeaaDoorW29
import Derived.Test.YthfaaoeecajkeaaDoorW37
import Derived.Test.YthfaaoeecajkeaaDoorW30
import Derived.Test.YthfaaoeecajkeaaDoorW34
import Derived.Test.YthfaaoeecajkeaaDoorW24
import Derived.Deep.Cut
import Derived.Deep.CutRange
set_option linter.unusedSimpArgs false
set_option linter.unusedVariables false
namespace Go.Proofs.YthfaaoeecajkeaaDoor.firstMsgs
open Go.RowKit Go.Proofs.YthfaaoeecajkeaaDoor

theorem put_size (m : Msg) : (bs (putM5R m)).size ≤ 100000 := by
  rw [bs_size]
  unfold putM5R
  split
  · rename_i h
    simp only [Bool.and_eq_true, decide_eq_true_eq] at h
    obtain ⟨_, _, _, hn, hall, hs⟩ := okM_small m h.1
    have hf := flat_length m.ents (fun e he => by have := ok_data e (hall e he); omega)
    have hz : m.snap.data.toList.length = m.snap.size := rfl
    unfold putM5
    simp only [List.length_append, fixL_length _ 1 (by decide), fixL_length _ 8 (by decide), fixL_length _ 4 (by decide), hf, hz]
    omega
  · exact Nat.zero_le _
theorem got_fits (L : List UInt8) (h : L.length ≤ maxLen) : (gotM L).1.Fits := by
  unfold gotM
  split
  · exact msg5_fits L h
  · exact ⟨u64_small (by decide) (by decide), u64_small (by decide) (by decide), u64_small (by decide) (by decide), u64_small (by decide) (by decide), u64_small (by decide) (by decide), (fun e he => by cases he), Nat.zero_le _, Nat.zero_le _⟩

set_option maxRecDepth 100000 in
set_option maxHeartbeats 8000000 in
theorem walk (m : Msg) (own : Bool) (ad : Option Addr) (n cp : Nat) (l : List Ent) (la : Option Addr) (ln lc : Nat) (s : ByteArray) (kn : Bool) (at_ by_ : Int) (w : World) (he : m.Fits) (hv : Ents w (.slice ad n cp) m.ents) (hl : Mrow w la ln l) (hs : s.size ≤ 140737488351232) (ha0 : -9223372036854775808 ≤ at_) (ha1 : at_ ≤ 9223372036854775807) :
    Calls Tryd.prog 5 #[.agg #[.int .i64 m.kind, .int .i64 m.sent, .int .i64 m.goal, .int .u64 m.term, .int .u64 m.index, .int .u64 m.prev, .int .u64 m.commit, .int .u64 m.mark, .bool m.yes, .slice ad n cp, .string m.snap, .bool own, .slice la ln lc], .string s, .bool kn, .int .i64 at_, .int .u8 by_] w fun e w' => e = .returned (.bool true) ∧ Fr [] w w' := by
  obtain ⟨mo, hmo, hN⟩ := noteAny m own ad n cp l la ln lc w he hv hl
  have HN := Lib.hid hN
  have hsz := put_size mo
  have HPp := Lib.hid (fun w v (h : Ents w v mo.ents) => pPutM mo v w hmo h)
  have HPr := Lib.hid (fun w v (h : Ents w v mo.ents) => rPutM mo v w hmo h)
  obtain ⟨A, hA⟩ : ∃ A, bs (putM5R mo) = A := ⟨_, rfl⟩
  obtain ⟨kb, hkb⟩ : ∃ b, (mo.ok && decide (mo.lvl ≤ 1)) = b := ⟨_, rfl⟩
  rw [hA, hkb] at HPp HPr
  rw [hA] at hsz
  have HBd := Lib.hid (fun w => fBend A at_ by_ w (by unfold maxLen; omega) ha0 ha1)
  have HB0 := Lib.hid (Blk.new w #[.int .i64 m.kind, .int .i64 m.sent, .int .i64 m.goal, .int .u64 m.term, .int .u64 m.index, .int .u64 m.prev, .int .u64 m.commit, .int .u64 m.mark, .bool m.yes, .slice ad n cp, .string m.snap, .bool own, .slice la ln lc] 50)
  have HF0 : Hid (Fr [] w (w.alloc (.cells #[.int .i64 m.kind, .int .i64 m.sent, .int .i64 m.goal, .int .u64 m.term, .int .u64 m.index, .int .u64 m.prev, .int .u64 m.commit, .int .u64 m.mark, .bool m.yes, .slice ad n cp, .string m.snap, .bool own, .slice la ln lc] 50))) := (Fr.refl _ _).alloc _
  clear he hv hl hN hmo hA hkb
  go_enter Tryd.func5, Tryd.ntmps5
  go_wp2_with fail
  refine (gExamples _).mono ?_
  rintro x w1 ⟨rfl, f1⟩
  have HB1 := Lib.hid (HB0.out.fr0 f1)
  have HF1 := Lib.hid (HF0.out.trans0 f1)
  generalize hbx : w.heap.size = bx at *
  clear f1 HB0 HF0 hbx
  have c0 : w1.cell? ⟨bx, 0, none⟩ = some (.int .i64 m.kind) := HB1.out.cellAt (i := 0) rfl
  have c1 : w1.cell? ⟨bx, 1, none⟩ = some (.int .i64 m.sent) := HB1.out.cellAt (i := 1) rfl
  have c2 : w1.cell? ⟨bx, 2, none⟩ = some (.int .i64 m.goal) := HB1.out.cellAt (i := 2) rfl
  have c3 : w1.cell? ⟨bx, 3, none⟩ = some (.int .u64 m.term) := HB1.out.cellAt (i := 3) rfl
  have c4 : w1.cell? ⟨bx, 4, none⟩ = some (.int .u64 m.index) := HB1.out.cellAt (i := 4) rfl
  have c5 : w1.cell? ⟨bx, 5, none⟩ = some (.int .u64 m.prev) := HB1.out.cellAt (i := 5) rfl
  have c6 : w1.cell? ⟨bx, 6, none⟩ = some (.int .u64 m.commit) := HB1.out.cellAt (i := 6) rfl
  have c7 : w1.cell? ⟨bx, 7, none⟩ = some (.int .u64 m.mark) := HB1.out.cellAt (i := 7) rfl
  have c8 : w1.cell? ⟨bx, 8, none⟩ = some (.bool m.yes) := HB1.out.cellAt (i := 8) rfl
  have c9 : w1.cell? ⟨bx, 9, none⟩ = some (.slice ad n cp) := HB1.out.cellAt (i := 9) rfl
  have c10 : w1.cell? ⟨bx, 10, none⟩ = some (.string m.snap) := HB1.out.cellAt (i := 10) rfl
  have c11 : w1.cell? ⟨bx, 11, none⟩ = some (.bool own) := HB1.out.cellAt (i := 11) rfl
  have c12 : w1.cell? ⟨bx, 12, none⟩ = some (.slice la ln lc) := HB1.out.cellAt (i := 12) rfl
  go_wp2_with fail
  refine (HN.out _ HF1.out).mono ?_
  rintro x w2 ⟨v1, rfl, hE1, f2⟩
  go_wp2_with fail
  refine (HPp.out _ _ hE1.out).mono ?_
  rintro x w3 ⟨rfl, f3⟩
  have HB3 := Lib.hid ((HB1.out.fr0 f2.out).fr0 f3)
  have HF3 := Lib.hid ((HF1.out.trans0 f2.out).trans0 f3)
  clear f2 f3 HB1 HF1 hE1
  clear c0 c1 c2 c3 c4 c5 c6 c7 c8 c9 c10 c11 c12
  have c0 : w3.cell? ⟨bx, 0, none⟩ = some (.int .i64 m.kind) := HB3.out.cellAt (i := 0) rfl
  have c1 : w3.cell? ⟨bx, 1, none⟩ = some (.int .i64 m.sent) := HB3.out.cellAt (i := 1) rfl
  have c2 : w3.cell? ⟨bx, 2, none⟩ = some (.int .i64 m.goal) := HB3.out.cellAt (i := 2) rfl
  have c3 : w3.cell? ⟨bx, 3, none⟩ = some (.int .u64 m.term) := HB3.out.cellAt (i := 3) rfl
  have c4 : w3.cell? ⟨bx, 4, none⟩ = some (.int .u64 m.index) := HB3.out.cellAt (i := 4) rfl
  have c5 : w3.cell? ⟨bx, 5, none⟩ = some (.int .u64 m.prev) := HB3.out.cellAt (i := 5) rfl
  have c6 : w3.cell? ⟨bx, 6, none⟩ = some (.int .u64 m.commit) := HB3.out.cellAt (i := 6) rfl
  have c7 : w3.cell? ⟨bx, 7, none⟩ = some (.int .u64 m.mark) := HB3.out.cellAt (i := 7) rfl
  have c8 : w3.cell? ⟨bx, 8, none⟩ = some (.bool m.yes) := HB3.out.cellAt (i := 8) rfl
  have c9 : w3.cell? ⟨bx, 9, none⟩ = some (.slice ad n cp) := HB3.out.cellAt (i := 9) rfl
  have c10 : w3.cell? ⟨bx, 10, none⟩ = some (.string m.snap) := HB3.out.cellAt (i := 10) rfl
  have c11 : w3.cell? ⟨bx, 11, none⟩ = some (.bool own) := HB3.out.cellAt (i := 11) rfl
  have c12 : w3.cell? ⟨bx, 12, none⟩ = some (.slice la ln lc) := HB3.out.cellAt (i := 12) rfl
  go_wp2_with fail
  refine (HN.out _ HF3.out).mono ?_
  rintro x w4 ⟨v2, rfl, hE2, f4⟩
  go_wp2_with fail
  refine (HPr.out _ _ hE2.out).mono ?_
  rintro x w5 ⟨rfl, f5⟩
  have HF5 := Lib.hid ((HF3.out.trans0 f4.out).trans0 f5)
  clear f4 f5 HB3 HF3 hE2
  clear c0 c1 c2 c3 c4 c5 c6 c7 c8 c9 c10 c11 c12
  go_upto_if 35 with fail
  go_cut [1] from 35 to 39 (fun s1 wx => ∃ T : ByteArray, s1 = .string T ∧ T.size ≤ 150000000000000 ∧ Hid (Fr [] w wx))
  case first =>
    cases kn with
    | true =>
      go_wp2_with fail
      refine (HBd.out _).mono ?_
      rintro x w6 ⟨t, rfl, ht, f6⟩
      have HF6 := Lib.hid (HF5.out.trans0 f6)
      have HHt := Lib.hid ht
      clear f6 ht
      go_wp2_with fail
      go_meet
      exact ⟨t, rfl, by have := HHt.out; omega, HF6.out⟩
    | false =>
      go_wp2_with fail
      go_meet
      exact ⟨s, rfl, by omega, HF5.out⟩
  case rest =>
  obtain ⟨T, rfl, hT, HFc⟩ := hcut
  obtain ⟨L, hL⟩ : ∃ L : List UInt8, bs L = T := ⟨T.data.toList, bs_of T⟩
  subst hL
  rw [bs_size] at hT
  clear HF5
  have hLm : L.length ≤ maxLen := by unfold maxLen; omega
  have HGp := Lib.hid (fun w => pGetM L w hLm)
  have HGr := Lib.hid (fun w => rGetM L w hLm)
  have HXf := Lib.hid (got_fits L hLm)
  obtain ⟨X, hX⟩ : ∃ X, (gotM L).1 = X := ⟨_, rfl⟩
  obtain ⟨g, hg⟩ : ∃ g, (gotM L).2 = g := ⟨_, rfl⟩
  rw [hX, hg] at HGp HGr
  rw [hX] at HXf
  have HSm := Lib.hid (fun v1 v2 w h1 h2 => rMsgSame X v1 v2 w HXf.out h1 h2)
  clear hX hg hLm
  go_wp2_with fail
  refine (HGp.out _).mono ?_
  rintro x w6 ⟨v3, rfl, hE3, f6⟩
  obtain ⟨a3, c3, rfl⟩ := hE3.out.shape
  have HF6 := Lib.hid (HFc.out.trans0 f6.out)
  have HX6 := Lib.hid (Blk.new w6 (X.cells (.slice a3 X.ents.length c3)) 47)
  have HE6 := Lib.hid (hE3.out.fr0 ((Fr.refl [] w6).alloc (.cells (X.cells (.slice a3 X.ents.length c3)) 47)))
  have HF6a := Lib.hid (HF6.out.alloc (.cells (X.cells (.slice a3 X.ents.length c3)) 47))
  unfold Msg.cells at HX6 HE6 HF6a HSm ⊢
  clear hE3 f6 HFc
  go_wp2_with fail
  generalize w6.alloc (.cells #[.int .i64 X.kind, .int .i64 X.sent, .int .i64 X.goal, .int .u64 X.term, .int .u64 X.index, .int .u64 X.prev, .int .u64 X.commit, .int .u64 X.mark, .bool X.yes, .slice a3 X.ents.length c3, .string X.snap] 47) = w7 at *
  generalize w6.heap.size = b6 at *
  refine (HGr.out _).mono ?_
  rintro x w8 ⟨v4, rfl, hE4, f8⟩
  obtain ⟨a4, c4, rfl⟩ := hE4.out.shape
  have HF8 := Lib.hid ((HF6a.out.trans0 f8.out).alloc (.cells (X.cells (.slice a4 X.ents.length c4)) 47))
  have HX8 := Lib.hid ((HX6.out.fr0 f8.out).alloc (.cells (X.cells (.slice a4 X.ents.length c4)) 47))
  have HE8 := Lib.hid ((HE6.out.fr0 f8.out).fr0 ((Fr.refl [] w8).alloc (.cells (X.cells (.slice a4 X.ents.length c4)) 47)))
  have HY8 := Lib.hid (Blk.new w8 (X.cells (.slice a4 X.ents.length c4)) 47)
  have HZ8 := Lib.hid (hE4.out.fr0 ((Fr.refl [] w8).alloc (.cells (X.cells (.slice a4 X.ents.length c4)) 47)))
  unfold Msg.cells at HF8 HX8 HE8 HY8 HZ8 ⊢
  clear hE4 f8 HX6 HE6 HF6a HF6
  obtain ⟨w9, hw9⟩ : ∃ w9, w8.alloc (.cells #[.int .i64 X.kind, .int .i64 X.sent, .int .i64 X.goal, .int .u64 X.term, .int .u64 X.index, .int .u64 X.prev, .int .u64 X.commit, .int .u64 X.mark, .bool X.yes, .slice a4 X.ents.length c4, .string X.snap] 47) = w9 := ⟨_, rfl⟩
  obtain ⟨b8, hb8⟩ : ∃ b8, w8.heap.size = b8 := ⟨_, rfl⟩
  rw [hw9] at HF8 HX8 HE8 HY8 HZ8
  rw [hb8] at HY8
  have a0_ : w9.cell? ⟨b6, 0, none⟩ = some (.int .i64 X.kind) := HX8.out.cellAt (i := 0) rfl
  have a1_ : w9.cell? ⟨b6, 1, none⟩ = some (.int .i64 X.sent) := HX8.out.cellAt (i := 1) rfl
  have a2_ : w9.cell? ⟨b6, 2, none⟩ = some (.int .i64 X.goal) := HX8.out.cellAt (i := 2) rfl
  have a3_ : w9.cell? ⟨b6, 3, none⟩ = some (.int .u64 X.term) := HX8.out.cellAt (i := 3) rfl
  have a4_ : w9.cell? ⟨b6, 4, none⟩ = some (.int .u64 X.index) := HX8.out.cellAt (i := 4) rfl
  have a5_ : w9.cell? ⟨b6, 5, none⟩ = some (.int .u64 X.prev) := HX8.out.cellAt (i := 5) rfl
  have a6_ : w9.cell? ⟨b6, 6, none⟩ = some (.int .u64 X.commit) := HX8.out.cellAt (i := 6) rfl
  have a7_ : w9.cell? ⟨b6, 7, none⟩ = some (.int .u64 X.mark) := HX8.out.cellAt (i := 7) rfl
  have a8_ : w9.cell? ⟨b6, 8, none⟩ = some (.bool X.yes) := HX8.out.cellAt (i := 8) rfl
  have a9_ : w9.cell? ⟨b6, 9, none⟩ = some (.slice a3 X.ents.length c3) := HX8.out.cellAt (i := 9) rfl
  have a10_ : w9.cell? ⟨b6, 10, none⟩ = some (.string X.snap) := HX8.out.cellAt (i := 10) rfl
  have b0_ : w9.cell? ⟨b8, 0, none⟩ = some (.int .i64 X.kind) := HY8.out.cellAt (i := 0) rfl
  have b1_ : w9.cell? ⟨b8, 1, none⟩ = some (.int .i64 X.sent) := HY8.out.cellAt (i := 1) rfl
  have b2_ : w9.cell? ⟨b8, 2, none⟩ = some (.int .i64 X.goal) := HY8.out.cellAt (i := 2) rfl
  have b3_ : w9.cell? ⟨b8, 3, none⟩ = some (.int .u64 X.term) := HY8.out.cellAt (i := 3) rfl
  have b4_ : w9.cell? ⟨b8, 4, none⟩ = some (.int .u64 X.index) := HY8.out.cellAt (i := 4) rfl
  have b5_ : w9.cell? ⟨b8, 5, none⟩ = some (.int .u64 X.prev) := HY8.out.cellAt (i := 5) rfl
  have b6_ : w9.cell? ⟨b8, 6, none⟩ = some (.int .u64 X.commit) := HY8.out.cellAt (i := 6) rfl
  have b7_ : w9.cell? ⟨b8, 7, none⟩ = some (.int .u64 X.mark) := HY8.out.cellAt (i := 7) rfl
  have b8_ : w9.cell? ⟨b8, 8, none⟩ = some (.bool X.yes) := HY8.out.cellAt (i := 8) rfl
  have b9_ : w9.cell? ⟨b8, 9, none⟩ = some (.slice a4 X.ents.length c4) := HY8.out.cellAt (i := 9) rfl
  have b10_ : w9.cell? ⟨b8, 10, none⟩ = some (.string X.snap) := HY8.out.cellAt (i := 10) rfl
  go_wp2_with fail
  try rw [hw9]
  refine (HSm.out _ _ _ HE8.out HZ8.out).mono ?_
  rintro x w10 ⟨rfl, f10⟩
  go_wp2_with fail
  go_ret
  exact ⟨rfl, HF8.out.trans0 f10⟩
end Go.Proofs.YthfaaoeecajkeaaDoor.firstMsgs
