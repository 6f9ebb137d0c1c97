/-
  Texts of this seat, joined: FNextQ.
-/
import Derived.Test.YtacdbglocpaeaaaZFNext
import Derived.Test.YtacdbglocpaeaaaZFRef7
set_option linter.unusedSimpArgs false
set_option linter.unusedVariables false
namespace Go.Proofs.Ytacdbglocpaeaaa
open Go.RowKit

def nextQT (s : ByteArray) (v k : Int) (s2 : ByteArray) (b2 : Bool) : Int × ByteArray × Int × Bool :=
  if ((rdBytes s2 b2 4).2.1.size : Int) < k then (0, bs [], 0, false)
  else if (rdBytes (rdBytes s2 b2 4).2.1 (rdBytes s2 b2 4).2.2 k).2.2 = true ∨ (packR v (rdBytes (rdBytes s2 b2 4).2.1 (rdBytes s2 b2 4).2.2 k).1.data.toList).2 = false ∨
      s.size < (bs (packR v (rdBytes (rdBytes s2 b2 4).2.1 (rdBytes s2 b2 4).2.2 k).1.data.toList).1).size ∨
      (s.extract 0 (bs (packR v (rdBytes (rdBytes s2 b2 4).2.1 (rdBytes s2 b2 4).2.2 k).1.data.toList).1).size).toList ≠ (bs (packR v (rdBytes (rdBytes s2 b2 4).2.1 (rdBytes s2 b2 4).2.2 k).1.data.toList).1).toList then (0, bs [], 0, false)
  else (v, (rdBytes (rdBytes s2 b2 4).2.1 (rdBytes s2 b2 4).2.2 k).1, (bs (packR v (rdBytes (rdBytes s2 b2 4).2.1 (rdBytes s2 b2 4).2.2 k).1.data.toList).1).size, true)

def nextQ (s : ByteArray) : Int × ByteArray × Int × Bool :=
  if beNum 0 (rdBytes s false 1).1.data.toList = 161 then
    nextQT s 1 (beNum 0 (rdBytes (rdBytes s false 1).2.1 (rdBytes s false 1).2.2 4).1.data.toList : Nat) (rdBytes (rdBytes s false 1).2.1 (rdBytes s false 1).2.2 4).2.1 (rdBytes (rdBytes s false 1).2.1 (rdBytes s false 1).2.2 4).2.2
  else
    nextQT s ((beNum 0 (rdBytes s false 1).1.data.toList : Nat) - 160 : Int) (rdVar (rdBytes s false 1).2.1 (rdBytes s false 1).2.2).1 (rdVar (rdBytes s false 1).2.1 (rdBytes s false 1).2.2).2.1 (rdVar (rdBytes s false 1).2.1 (rdBytes s false 1).2.2).2.2

theorem packR_size (v : Int) (l : List UInt8) (_h : l.length ≤ 9223372036854775807) : (bs (packR v l).1).size ≤ l.length + 15 := by
  rw [bs_size, packR]
  split
  · simp only [packL, headL, List.length_append, fixL_length _ _ (show 1 ≤ 8 by decide), fixL_length _ _ (show 4 ≤ 8 by decide)]
    have := lenL_size v l.length
    rw [bs_size] at this
    omega
  · simp

set_option maxRecDepth 100000 in
set_option maxHeartbeats 4000000 in
theorem rfNext (s : ByteArray) (w : World) (hs : s.size ≤ 9223372036854775000) :
    Calls Try.prog 13 #[.string s] w fun e w' =>
      e = .returned (.tuple #[.int .i64 (nextQ s).1, .string (nextQ s).2.1, .int .i64 (nextQ s).2.2.1, .bool (nextQ s).2.2.2]) ∧ Fr [] w w' := by
  have hb1 := beNum_one s false
  have hl1 := rdBytes_left s false 1
  generalize hN : nextQ s = N
  unfold nextQ at hN
  generalize hx1 : rdBytes s false 1 = x1 at *
  have Hx1 := Lib.hid hx1
  clear hx1
  obtain ⟨t1, s1, b1⟩ := x1
  dsimp only at hN hb1 hl1
  generalize hv1 : beNum 0 t1.data.toList = v1 at *
  have Hv1 := Lib.hid hv1
  clear hv1
  have HN := Lib.hid hN
  clear hN
  go_enter Try.func13, Try.ntmps13
  go_wp2_with fail
  refine (rvNew s _).mono ?_
  rintro e w1 ⟨rfl, g1, f1⟩
  generalize hr0 : w.heap.size = r0 at *
  have Hr0 := Lib.hid hr0
  clear hr0
  go_wp2_with fail
  refine (rvFixedR _ _ _ 1 _ g1 (by decide) (by decide)).mono ?_
  rw [Hx1.out]
  dsimp only
  rw [Hv1.out]
  rintro e w2 ⟨rfl, g2, f2⟩
  have F2 : Hid (Fr [r0] w w2) := (f1.wide0).trans1 f2
  have hv0 : (0 : Int) ≤ v1 := by omega
  have hv2 : (v1 : Int) < 256 := by omega
  generalize hv : (v1 : Int) = vi at *
  have Hv := Lib.hid hv
  clear hv f1 f2 g1 hb1
  have Hk : Hid (vi = 161 ∨ vi ≠ 161) := by show _ ∨ _; omega
  rcases Hk.out with hk | hk
  · have hk1 : vi - 160 = 1 := by omega
    have Hk1 := Lib.hid hk
    have hke : (vi - 160 == 1) = true := by simpa using hk1
    clear hk hk1
    go_wp2_with fail
    refine (rvFixedR _ _ _ 4 _ g2 (by decide) (by decide)).mono ?_
    have hk1 : (0 : Int) ≤ ((beNum 0 (rdBytes s1 b1 4).1.data.toList : Nat) : Int) := Int.natCast_nonneg _
    have hl2 := rdBytes_left s1 b1 4
    generalize eK : ((beNum 0 (rdBytes s1 b1 4).1.data.toList : Nat) : Int) = kk at *
    generalize eS : (rdBytes s1 b1 4).2.1 = s2 at *
    generalize eB : (rdBytes s1 b1 4).2.2 = b2 at *
    have HN2 : Hid (nextQT s (vi - 160) kk s2 b2 = N) := by
      have hv3 := Hv.out
      have hk3 := Hk1.out
      show nextQT _ _ _ _ _ = N
      rw [← HN.out, if_pos (by omega), ← eK, ← eS, ← eB, hk3]
      rfl
    clear HN eK eS eB Hk1
    rintro e w3 ⟨rfl, g3, f3⟩
    have F3 : Hid (Fr [r0] w w3) := F2.out.trans1 f3
    clear f3 F2 g2
    have hl3 : s2.size ≤ s.size := by omega
    go_wp2_with fail
    have hl4 := rdBytes_left s2 b2 4
    refine (rvFixedR _ _ _ 4 _ g3 (by decide) (by decide)).mono ?_
    have HN3 := HN2.out
    unfold nextQT at HN3
    have HN4 := Lib.hid HN3
    clear HN3 HN2
    generalize rdBytes s2 b2 4 = x3 at *
    obtain ⟨t4, s3, b3⟩ := x3
    dsimp only at hl4 HN4 ⊢
    rintro e w4 ⟨rfl, g4, f4⟩
    have F4 : Hid (Fr [r0] w w4) := F3.out.trans1 f4
    have hs3 : s3.size ≤ s.size := by omega
    clear f4 g3 F3
    have cc := g4.cellAt (i := 0) rfl
    generalize (beNum 0 t4.data.toList : Int) = sm at *
    by_cases hbad : (s3.size : Int) < kk
    · have HN5 : Hid ((0, bs [], 0, false) = N) := by have h := HN4.out; rw [if_pos hbad] at h; exact h
      clear HN4
      have hfin : Hid (Fr [] w w4) := F4.out.shed (by have := Hr0.out; simp; omega)
      go_wp2_with fail
      refine bodyPost_ret (v := .tuple #[.int .i64 0, .string ⟨#[]⟩, .int .i64 0, .bool false]) (by simp [results, Try.results13, go_sem]) rfl ?_
      rw [← HN5.out]
      exact ⟨rfl, hfin.out⟩
    · have HN5 := HN4.out
      rw [if_neg hbad] at HN5
      have HN6 := Lib.hid HN5
      clear HN4 HN5
      have hkk : kk ≤ s3.size := by omega
      have hkw : wrap64 kk = kk := by unfold wrap64; omega
      go_wp2_with fail
      have hl5 := rdBytes_left s3 b3 kk
      have hg5 := rdBytes_got s3 b3 kk
      refine (rvBytes _ _ _ kk _ g4).mono ?_
      generalize rdBytes s3 b3 kk = x4 at *
      obtain ⟨bd, s4, b4⟩ := x4
      dsimp only at hl5 hg5 HN6 ⊢
      rintro e w5 ⟨rfl, g5, f5⟩
      have F5 : Hid (Fr [r0] w w5) := F4.out.trans1 f5
      clear f5 g4 F4 cc
      go_wp2_with fail
      have hbl : bd.data.toList.length ≤ maxLen := by show bd.size ≤ maxLen; unfold maxLen; omega
      have hpk := packR_size (vi - 160) bd.data.toList (by show bd.size ≤ _; omega)
      have hpk' : bd.data.toList.length ≤ s.size := by show bd.size ≤ _; omega
      have hcon := rfPack (vi - 160) bd.data.toList w5 hbl
      rw [bs_of] at hcon
      refine hcon.mono ?_
      clear hcon
      generalize packR (vi - 160) bd.data.toList = p at *
      obtain ⟨pl, pb⟩ := p
      dsimp only at hpk HN6 ⊢
      generalize bs pl = t at *
      rintro e w6 ⟨rfl, f6⟩
      have G6 : RRd w6 r0 s4 b4 := g5.fr0 f6
      have F6 : Hid (Fr [] w w6) := (F5.out.trans0 f6).shed (by have := Hr0.out; simp; omega)
      have cc := G6.cellAt (i := 1) rfl
      clear f6 g5 F5
      have hts : t.size ≤ s.size + 15 := by omega
      by_cases hbad2 : b4 = true ∨ pb = false ∨ s.size < t.size ∨ (s.extract 0 t.size).toList ≠ t.toList
      · have HN7 : Hid ((0, bs [], 0, false) = N) := by have h := HN6.out; rw [if_pos hbad2] at h; exact h
        clear HN6
        rcases (show b4 = true ∨ (b4 = false ∧ pb = false) ∨ (b4 = false ∧ pb = true ∧ s.size < t.size) ∨ (b4 = false ∧ pb = true ∧ t.size ≤ s.size ∧ ((s.extract 0 t.size).toList == t.toList) = false) by
            cases b4 <;> cases pb <;> simp at hbad2 ⊢
            rcases hbad2 with h | h
            · exact .inl h
            · by_cases h2 : s.size < t.size
              · exact .inl h2
              · exact .inr ⟨by omega, h⟩) with h | ⟨h, h2⟩ | ⟨h, h2, h3⟩ | ⟨h, h2, h3, h4⟩
        all_goals
          subst h
          try subst h2
          clear hbad2
          go_wp2_with fail
          refine bodyPost_ret (v := .tuple #[.int .i64 0, .string ⟨#[]⟩, .int .i64 0, .bool false]) (by simp [results, Try.results13, go_sem]) rfl ?_
          rw [← HN7.out]
          exact ⟨rfl, F6.out⟩
      · have HN7 : Hid ((vi - 160, bd, (t.size : Int), true) = N) := by have h := HN6.out; rw [if_neg hbad2] at h; exact h
        clear HN6
        obtain ⟨h, h2, h3, h4⟩ : b4 = false ∧ pb = true ∧ t.size ≤ s.size ∧ ((s.extract 0 t.size).toList == t.toList) = true := by
          cases b4 <;> cases pb <;> simp at hbad2 ⊢
          exact ⟨by omega, hbad2.2⟩
        subst h
        subst h2
        clear hbad2
        go_wp2_with fail
        refine bodyPost_ret (v := .tuple #[.int .i64 (vi - 160), .string bd, .int .i64 t.size, .bool true]) (by simp [results, Try.results13, go_sem]) rfl ?_
        rw [← HN7.out]
        exact ⟨rfl, F6.out⟩
  · have Hk1 := Lib.hid hk
    have hke : (vi - 160 == 1) = false := by simp; omega
    clear hk
    go_wp2_with fail
    refine (rvVar r0 s1 b1 _ g2 (by unfold maxLen; omega)).mono ?_
    have hk1 := (rdVar_lt s1 b1).1
    have hl2 := rdVar_left s1 b1
    generalize eK : (rdVar s1 b1).1 = kk at *
    generalize eS : (rdVar s1 b1).2.1 = s2 at *
    generalize eB : (rdVar s1 b1).2.2 = b2 at *
    have HN2 : Hid (nextQT s (vi - 160) kk s2 b2 = N) := by
      have hv3 := Hv.out
      have hk3 := Hk1.out
      show nextQT _ _ _ _ _ = N
      rw [← HN.out, if_neg (by omega), ← eK, ← eS, ← eB]
    clear HN eK eS eB Hk1
    rintro e w3 ⟨rfl, g3, f3⟩
    have F3 : Hid (Fr [r0] w w3) := F2.out.trans1 f3
    clear f3 F2 g2
    have hl3 : s2.size ≤ s.size := by omega
    go_wp2_with fail
    have hl4 := rdBytes_left s2 b2 4
    refine (rvFixedR _ _ _ 4 _ g3 (by decide) (by decide)).mono ?_
    have HN3 := HN2.out
    unfold nextQT at HN3
    have HN4 := Lib.hid HN3
    clear HN3 HN2
    generalize rdBytes s2 b2 4 = x3 at *
    obtain ⟨t4, s3, b3⟩ := x3
    dsimp only at hl4 HN4 ⊢
    rintro e w4 ⟨rfl, g4, f4⟩
    have F4 : Hid (Fr [r0] w w4) := F3.out.trans1 f4
    have hs3 : s3.size ≤ s.size := by omega
    clear f4 g3 F3
    have cc := g4.cellAt (i := 0) rfl
    generalize (beNum 0 t4.data.toList : Int) = sm at *
    by_cases hbad : (s3.size : Int) < kk
    · have HN5 : Hid ((0, bs [], 0, false) = N) := by have h := HN4.out; rw [if_pos hbad] at h; exact h
      clear HN4
      have hfin : Hid (Fr [] w w4) := F4.out.shed (by have := Hr0.out; simp; omega)
      go_wp2_with fail
      refine bodyPost_ret (v := .tuple #[.int .i64 0, .string ⟨#[]⟩, .int .i64 0, .bool false]) (by simp [results, Try.results13, go_sem]) rfl ?_
      rw [← HN5.out]
      exact ⟨rfl, hfin.out⟩
    · have HN5 := HN4.out
      rw [if_neg hbad] at HN5
      have HN6 := Lib.hid HN5
      clear HN4 HN5
      have hkk : kk ≤ s3.size := by omega
      have hkw : wrap64 kk = kk := by unfold wrap64; omega
      go_wp2_with fail
      have hl5 := rdBytes_left s3 b3 kk
      have hg5 := rdBytes_got s3 b3 kk
      refine (rvBytes _ _ _ kk _ g4).mono ?_
      generalize rdBytes s3 b3 kk = x4 at *
      obtain ⟨bd, s4, b4⟩ := x4
      dsimp only at hl5 hg5 HN6 ⊢
      rintro e w5 ⟨rfl, g5, f5⟩
      have F5 : Hid (Fr [r0] w w5) := F4.out.trans1 f5
      clear f5 g4 F4 cc
      go_wp2_with fail
      have hbl : bd.data.toList.length ≤ maxLen := by show bd.size ≤ maxLen; unfold maxLen; omega
      have hpk := packR_size (vi - 160) bd.data.toList (by show bd.size ≤ _; omega)
      have hpk' : bd.data.toList.length ≤ s.size := by show bd.size ≤ _; omega
      have hcon := rfPack (vi - 160) bd.data.toList w5 hbl
      rw [bs_of] at hcon
      refine hcon.mono ?_
      clear hcon
      generalize packR (vi - 160) bd.data.toList = p at *
      obtain ⟨pl, pb⟩ := p
      dsimp only at hpk HN6 ⊢
      generalize bs pl = t at *
      rintro e w6 ⟨rfl, f6⟩
      have G6 : RRd w6 r0 s4 b4 := g5.fr0 f6
      have F6 : Hid (Fr [] w w6) := (F5.out.trans0 f6).shed (by have := Hr0.out; simp; omega)
      have cc := G6.cellAt (i := 1) rfl
      clear f6 g5 F5
      have hts : t.size ≤ s.size + 15 := by omega
      by_cases hbad2 : b4 = true ∨ pb = false ∨ s.size < t.size ∨ (s.extract 0 t.size).toList ≠ t.toList
      · have HN7 : Hid ((0, bs [], 0, false) = N) := by have h := HN6.out; rw [if_pos hbad2] at h; exact h
        clear HN6
        rcases (show b4 = true ∨ (b4 = false ∧ pb = false) ∨ (b4 = false ∧ pb = true ∧ s.size < t.size) ∨ (b4 = false ∧ pb = true ∧ t.size ≤ s.size ∧ ((s.extract 0 t.size).toList == t.toList) = false) by
            cases b4 <;> cases pb <;> simp at hbad2 ⊢
            rcases hbad2 with h | h
            · exact .inl h
            · by_cases h2 : s.size < t.size
              · exact .inl h2
              · exact .inr ⟨by omega, h⟩) with h | ⟨h, h2⟩ | ⟨h, h2, h3⟩ | ⟨h, h2, h3, h4⟩
        all_goals
          subst h
          try subst h2
          clear hbad2
          go_wp2_with fail
          refine bodyPost_ret (v := .tuple #[.int .i64 0, .string ⟨#[]⟩, .int .i64 0, .bool false]) (by simp [results, Try.results13, go_sem]) rfl ?_
          rw [← HN7.out]
          exact ⟨rfl, F6.out⟩
      · have HN7 : Hid ((vi - 160, bd, (t.size : Int), true) = N) := by have h := HN6.out; rw [if_neg hbad2] at h; exact h
        clear HN6
        obtain ⟨h, h2, h3, h4⟩ : b4 = false ∧ pb = true ∧ t.size ≤ s.size ∧ ((s.extract 0 t.size).toList == t.toList) = true := by
          cases b4 <;> cases pb <;> simp at hbad2 ⊢
          exact ⟨by omega, hbad2.2⟩
        subst h
        subst h2
        clear hbad2
        go_wp2_with fail
        refine bodyPost_ret (v := .tuple #[.int .i64 (vi - 160), .string bd, .int .i64 t.size, .bool true]) (by simp [results, Try.results13, go_sem]) rfl ?_
        rw [← HN7.out]
        exact ⟨rfl, F6.out⟩
/-! ### Unpack, of both -/
def unpackOf (n : Int × ByteArray × Int × Bool) (size : Nat) : Int × ByteArray × Bool := if n.2.2.2 = false ∨ n.2.2.1 ≠ (size : Int) then (0, bs [], false) else (n.1, n.2.1, true)

set_option maxHeartbeats 1000000 in
theorem fUnpack (s : ByteArray) (w : World) (hs : s.size ≤ 9223372036854775000) :
    Calls Try.prog 14 #[.string s] w fun e w' =>
      e = .returned (.tuple #[.int .i64 (unpackOf (nextS s) s.size).1, .string (unpackOf (nextS s) s.size).2.1, .bool (unpackOf (nextS s) s.size).2.2]) ∧ Fr [] w w' := by
  generalize hN : unpackOf (nextS s) s.size = N
  have HN := Lib.hid hN
  clear hN
  go_enter Try.func14, Try.ntmps14
  go_wp2_with fail
  refine (fNext s _ (by unfold maxLen; omega)).mono ?_
  generalize nextS s = x at *
  obtain ⟨v, b, n, ok⟩ := x
  dsimp only
  rintro e w1 ⟨rfl, f1⟩
  by_cases hbad : ok = false ∨ n ≠ (s.size : Int)
  · have HN2 : Hid ((0, bs [], false) = N) := by have h := HN.out; unfold unpackOf at h; rw [if_pos hbad] at h; exact h
    clear HN
    rcases (show ok = false ∨ (ok = true ∧ n ≠ (s.size : Int)) by cases ok <;> simp at hbad ⊢; exact hbad) with h | ⟨h, h2⟩
    · subst h
      clear hbad
      go_wp2_with fail
      go_ret3
      rw [← HN2.out]
      exact ⟨rfl, f1⟩
    · subst h
      have h3 : (n != (s.size : Int)) = true := by simpa using h2
      clear hbad h2
      go_wp2_with fail
      go_ret3
      rw [← HN2.out]
      exact ⟨rfl, f1⟩
  · have HN2 : Hid ((v, b, true) = N) := by have h := HN.out; unfold unpackOf at h; rw [if_neg hbad] at h; exact h
    clear HN
    obtain ⟨h, h2⟩ : ok = true ∧ n = (s.size : Int) := by cases ok <;> simp at hbad ⊢; exact hbad
    have h3 : (n != (s.size : Int)) = false := by simpa using h2
    subst h
    clear hbad h2
    go_wp2_with fail
    go_ret3
    rw [← HN2.out]
    exact ⟨rfl, f1⟩

set_option maxHeartbeats 1000000 in
theorem rfUnpack (s : ByteArray) (w : World) (hs : s.size ≤ 9223372036854775000) :
    Calls Try.prog 15 #[.string s] w fun e w' =>
      e = .returned (.tuple #[.int .i64 (unpackOf (nextQ s) s.size).1, .string (unpackOf (nextQ s) s.size).2.1, .bool (unpackOf (nextQ s) s.size).2.2]) ∧ Fr [] w w' := by
  generalize hN : unpackOf (nextQ s) s.size = N
  have HN := Lib.hid hN
  clear hN
  go_enter Try.func15, Try.ntmps15
  go_wp2_with fail
  refine (rfNext s _ hs).mono ?_
  generalize nextQ s = x at *
  obtain ⟨v, b, n, ok⟩ := x
  dsimp only
  rintro e w1 ⟨rfl, f1⟩
  by_cases hbad : ok = false ∨ n ≠ (s.size : Int)
  · have HN2 : Hid ((0, bs [], false) = N) := by have h := HN.out; unfold unpackOf at h; rw [if_pos hbad] at h; exact h
    clear HN
    rcases (show ok = false ∨ (ok = true ∧ n ≠ (s.size : Int)) by cases ok <;> simp at hbad ⊢; exact hbad) with h | ⟨h, h2⟩
    · subst h
      clear hbad
      go_wp2_with fail
      go_ret3
      rw [← HN2.out]
      exact ⟨rfl, f1⟩
    · subst h
      have h3 : (n != (s.size : Int)) = true := by simpa using h2
      clear hbad h2
      go_wp2_with fail
      go_ret3
      rw [← HN2.out]
      exact ⟨rfl, f1⟩
  · have HN2 : Hid ((v, b, true) = N) := by have h := HN.out; unfold unpackOf at h; rw [if_neg hbad] at h; exact h
    clear HN
    obtain ⟨h, h2⟩ : ok = true ∧ n = (s.size : Int) := by cases ok <;> simp at hbad ⊢; exact hbad
    have h3 : (n != (s.size : Int)) = false := by simpa using h2
    subst h
    clear hbad h2
    go_wp2_with fail
    go_ret3
    rw [← HN2.out]
    exact ⟨rfl, f1⟩

end Go.Proofs.Ytacdbglocpaeaaa
