/-
  Plain laws on frames: what was packed is read again; the reference's reader is the program's.
-/
import Derived.Test.YtacdbglocpaeaaaFLaw
namespace Go.Proofs.Ytacdbglocpaeaaa

theorem rdBytes_app (x y : List UInt8) (n : Int) (h : n = (x.length : Int)) : rdBytes (bs (x ++ y)) false n = (bs x, bs y, false) := by
  subst h
  rw [rdBytes_bs, if_neg (by simp)]
  simp

theorem lenL_length (v : Int) (n : Nat) : (lenL v n).length ≤ 10 := by have := lenL_size v n; rwa [bs_size] at this

theorem crc4_be (x : Nat) (h : x < 4294967296) : beNum 0 (bs (fixL (x : Nat) 4)).data.toList = x := by rw [bs_list, beNum_fix4 x h]

theorem nextT_pack (v : Int) (h b more : List UInt8) (k : Int) (hk : k = (b.length : Int)) (hb : b.length ≤ 1048576) :
    nextT (bs (h ++ (fixL (crcMore (crcMore 0 h) b : Nat) 4 ++ (b ++ more)))) v k (bs (fixL (crcMore (crcMore 0 h) b : Nat) 4 ++ (b ++ more))) false =
      (v, bs b, ((h.length + 4 + b.length : Nat) : Int), true) := by
  have h4 : (fixL (crcMore (crcMore 0 h) b : Nat) 4).length = 4 := fixL_length _ _ (by decide)
  have hcrc := crcMore_lt (crcMore 0 h) b
  generalize hC : crcMore (crcMore 0 h) b = C at *
  unfold nextT
  rw [rdBytes_app (fixL (C : Nat) 4) (b ++ more) 4 (by rw [h4]; rfl)]
  dsimp only
  rw [if_neg (by rw [bs_size]; simp; omega), rdBytes_app b more k hk]
  dsimp only
  have hex : (bs (h ++ (fixL (C : Nat) 4 ++ (b ++ more)))).extract 0 ((bs (h ++ (fixL (C : Nat) 4 ++ (b ++ more)))).size - (bs (fixL (C : Nat) 4 ++ (b ++ more))).size) = bs h := by
    rw [bs_extract, bs_size, bs_size, List.length_append, Nat.add_sub_cancel]
    simp
  rw [hex, bs_list, bs_list, hC, crc4_be C hcrc, if_pos rfl, bs_size, bs_size]
  simp only [List.length_append, h4, Prod.mk.injEq, true_and, and_true]
  omega

theorem packL_eq (v : Int) (b more : List UInt8) : packL v b ++ more = headL v b.length ++ (fixL (crcMore (crcMore 0 (headL v b.length)) b : Nat) 4 ++ (b ++ more)) := by
  unfold packL; simp

theorem packL_length (v : Int) (b : List UInt8) : (packL v b).length = (headL v b.length).length + 4 + b.length := by
  unfold packL
  simp only [List.length_append, fixL_length _ _ (show 4 ≤ 8 by decide)]

/-- What was packed is read, with whatever stands behind it. -/
theorem nextS_pack (v : Int) (hv : v = 1 ∨ v = 2) (b more : List UInt8) (hb : b.length ≤ 1048576) : nextS (bs (packL v b ++ more)) = (v, bs b, ((packL v b).length : Int), true) := by
  rw [packL_length, packL_eq]
  have hT := nextT_pack v (headL v b.length) b more b.length rfl hb
  generalize hR : fixL (crcMore (crcMore 0 (headL v b.length)) b : Nat) 4 ++ (b ++ more) = R at *
  rcases hv with rfl | rfl
  · have e : headL 1 b.length ++ R = [161] ++ (fixL (b.length : Nat) 4 ++ R) := by
      unfold headL lenL
      rw [show ((160 : Int) + 1) = ((161 : Nat) : Int) from rfl, fixL_one 161 (by decide), if_pos rfl]
      simp
    unfold nextS
    rw [e] at hT ⊢
    rw [rdBytes_app [161] _ 1 rfl]
    dsimp only
    rw [bs_list, if_pos (by rw [beNum_one']; rfl), rdBytes_app (fixL (b.length : Nat) 4) R 4 (by rw [fixL_length _ _ (by decide)]; rfl)]
    dsimp only
    rw [crc4_be b.length (by omega)]
    exact hT
  · have e : headL 2 b.length ++ R = [162] ++ (putL b.length ++ R) := by
      unfold headL lenL
      rw [show ((160 : Int) + 2) = ((162 : Nat) : Int) from rfl, fixL_one 162 (by decide), if_neg (by decide)]
      simp
    unfold nextS
    rw [e] at hT ⊢
    rw [rdBytes_app [162] _ 1 rfl]
    dsimp only
    rw [bs_list, if_neg (by rw [beNum_one']; decide), if_pos (by rw [beNum_one']; rfl), rdVar_bs, varGo_put b.length (by omega)]
    dsimp only
    rw [List.drop_left]
    exact hT

/-- The same of the reference's. -/
theorem nextQT_pack (v : Int) (hv : v = 1 ∨ v = 2) (b more : List UInt8) (k : Int) (hk : k = (b.length : Int)) (hb : b.length ≤ 1048576) :
    nextQT (bs (packL v b ++ more)) v k (bs (fixL (crcMore (crcMore 0 (headL v b.length)) b : Nat) 4 ++ (b ++ more))) false = (v, bs b, ((packL v b).length : Int), true) := by
  have h4 : (fixL (crcMore (crcMore 0 (headL v b.length)) b : Nat) 4).length = 4 := fixL_length _ _ (by decide)
  have hp : packR v b = (packL v b, true) := by rw [packR, if_pos (by omega)]
  unfold nextQT
  rw [rdBytes_app _ (b ++ more) 4 (by rw [h4]; rfl)]
  dsimp only
  rw [if_neg (by rw [bs_size]; simp; omega), rdBytes_app b more k hk]
  dsimp only
  rw [bs_list, hp]
  dsimp only
  rw [if_neg, bs_size]
  rw [bs_size, bs_size, bs_extract, Lib.toList_data, Lib.toList_data, bs_list, bs_list]
  simp

theorem nextQ_pack (v : Int) (hv : v = 1 ∨ v = 2) (b more : List UInt8) (hb : b.length ≤ 1048576) : nextQ (bs (packL v b ++ more)) = (v, bs b, ((packL v b).length : Int), true) := by
  have hT := nextQT_pack v hv b more b.length rfl hb
  rw [packL_eq] at hT ⊢
  generalize hR : fixL (crcMore (crcMore 0 (headL v b.length)) b : Nat) 4 ++ (b ++ more) = R at *
  rcases hv with rfl | rfl
  · have e : headL 1 b.length ++ R = [161] ++ (fixL (b.length : Nat) 4 ++ R) := by
      unfold headL lenL
      rw [show ((160 : Int) + 1) = ((161 : Nat) : Int) from rfl, fixL_one 161 (by decide), if_pos rfl]
      simp
    unfold nextQ
    rw [e] at hT ⊢
    rw [rdBytes_app [161] _ 1 rfl]
    dsimp only
    rw [bs_list, if_pos (by rw [beNum_one']; rfl), rdBytes_app (fixL (b.length : Nat) 4) R 4 (by rw [fixL_length _ _ (by decide)]; rfl)]
    dsimp only
    rw [crc4_be b.length (by omega)]
    exact hT
  · have e : headL 2 b.length ++ R = [162] ++ (putL b.length ++ R) := by
      unfold headL lenL
      rw [show ((160 : Int) + 2) = ((162 : Nat) : Int) from rfl, fixL_one 162 (by decide), if_neg (by decide)]
      simp
    unfold nextQ
    rw [e] at hT ⊢
    rw [rdBytes_app [162] _ 1 rfl]
    dsimp only
    rw [bs_list, if_neg (by rw [beNum_one']; decide), rdVar_bs, varGo_put b.length (by omega)]
    dsimp only
    rw [List.drop_left, beNum_one']
    exact hT

theorem nextT_no (s : ByteArray) (v k : Int) (s2 : ByteArray) (b2 : Bool) (h : (nextT s v k s2 b2).2.2.2 = false) : nextT s v k s2 b2 = (0, bs [], 0, false) := by
  unfold nextT at *
  split at h
  · rw [if_pos (by assumption)]
  · rw [if_neg (by assumption)]
    split at h
    · cases h
    · rw [if_neg (by assumption)]

theorem nextS_no (s : ByteArray) (h : (nextS s).2.2.2 = false) : nextS s = (0, bs [], 0, false) := by
  unfold nextS at *
  split at h
  · rw [if_pos (by assumption)]; exact nextT_no _ _ _ _ _ h
  · rw [if_neg (by assumption)]
    split at h
    · rw [if_pos (by assumption)]; exact nextT_no _ _ _ _ _ h
    · rw [if_neg (by assumption)]

/-- What the reference reads begins with what it packs. -/
theorem nextQT_was (l : List UInt8) (v k : Int) (s2 : ByteArray) (b2 : Bool) : nextQT (bs l) v k s2 b2 = (0, bs [], 0, false) ∨
    ∃ b more, (v = 1 ∨ v = 2) ∧ b.length ≤ 1048576 ∧ l = packL v b ++ more := by
  unfold nextQT
  by_cases h1 : ((rdBytes s2 b2 4).2.1.size : Int) < k
  · rw [if_pos h1]; exact .inl rfl
  · rw [if_neg h1]
    generalize rdBytes (rdBytes s2 b2 4).2.1 (rdBytes s2 b2 4).2.2 k = x4
    obtain ⟨bd, s4, b4⟩ := x4
    dsimp only
    by_cases h2 : b4 = true ∨ (packR v bd.data.toList).2 = false ∨ (bs l).size < (bs (packR v bd.data.toList).1).size ∨ ((bs l).extract 0 (bs (packR v bd.data.toList).1).size).toList ≠ (bs (packR v bd.data.toList).1).toList
    · rw [if_pos h2]; exact .inl rfl
    · refine .inr ?_
      by_cases hc : 1 ≤ v ∧ v ≤ 2 ∧ bd.data.toList.length ≤ 1048576
      · have hp : packR v bd.data.toList = (packL v bd.data.toList, true) := by rw [packR, if_pos hc]
        rw [hp] at h2
        dsimp only at h2
        have h3 : ((bs l).extract 0 (bs (packL v bd.data.toList)).size).toList = (bs (packL v bd.data.toList)).toList := Decidable.not_not.1 (fun hn => h2 (.inr (.inr (.inr hn))))
        rw [bs_extract, Lib.toList_data, Lib.toList_data, bs_list, bs_list, bs_size, List.drop_zero] at h3
        refine ⟨bd.data.toList, l.drop (packL v bd.data.toList).length, by omega, hc.2.2, ?_⟩
        have h4 := List.take_append_drop (packL v bd.data.toList).length l
        rw [h3] at h4
        exact h4.symm
      · have hp : packR v bd.data.toList = ([], false) := by rw [packR, if_neg hc]
        exact absurd (.inr (.inl (by rw [hp]))) h2

theorem nextT_was (h l2 : List UInt8) (v k : Int) (hk : 0 ≤ k) (hok : (nextT (bs (h ++ l2)) v k (bs l2) false).2.2.2 = true) :
    ∃ b more, l2 = fixL (crcMore (crcMore 0 h) b : Nat) 4 ++ (b ++ more) ∧ k = (b.length : Int) ∧ b.length ≤ 1048576 := by
  unfold nextT at hok
  have e4 : (4 : Int) = ((4 : Nat) : Int) := rfl
  rw [e4, rdBytes_bs] at hok
  by_cases h4 : l2.length < 4
  · rw [if_pos h4] at hok; dsimp only at hok; rw [if_pos (.inl rfl)] at hok; cases hok
  · rw [if_neg h4] at hok
    dsimp only at hok
    by_cases hc : (False ∨ 1048576 < k ∨ ((bs (l2.drop 4)).size : Int) < k)
    · rw [if_pos (by simpa using hc)] at hok; cases hok
    · rw [if_neg (by simpa using hc)] at hok
      rw [bs_size] at hc
      obtain ⟨n, rfl⟩ := Int.eq_ofNat_of_zero_le hk
      have hn : n ≤ (l2.drop 4).length := by omega
      have hx : rdBytes (bs (l2.drop 4)) false (n : Int) = (bs ((l2.drop 4).take n), bs ((l2.drop 4).drop n), false) := by rw [rdBytes_bs, if_neg (by omega)]
      rw [hx] at hok
      dsimp only at hok
      have hex : (bs (h ++ l2)).extract 0 ((bs (h ++ l2)).size - (bs l2).size) = bs h := by
        rw [bs_extract, bs_size, bs_size, List.length_append, Nat.add_sub_cancel]; simp
      rw [hex, bs_list, bs_list, bs_list] at hok
      split at hok
      · rename_i hcrc
        refine ⟨(l2.drop 4).take n, (l2.drop 4).drop n, ?_, by simp at hn ⊢; omega, by simp at hn ⊢; omega⟩
        rw [hcrc, fix4_beNum (l2.take 4) (by simp; omega), List.take_append_drop, List.take_append_drop]
      · cases hok

theorem nextT_bad (s : ByteArray) (v k : Int) (s2 : ByteArray) : (nextT s v k s2 true).2.2.2 = false := by
  unfold nextT
  rw [rdBytes_bad, if_pos (.inl rfl)]

/-- What is read begins with what is packed. -/
theorem nextS_was (l : List UInt8) (hok : (nextS (bs l)).2.2.2 = true) : ∃ v b more, (v = 1 ∨ v = 2) ∧ b.length ≤ 1048576 ∧ l = packL v b ++ more := by
  unfold nextS at hok
  have e1 : (1 : Int) = ((1 : Nat) : Int) := rfl
  have e4 : (4 : Int) = ((4 : Nat) : Int) := rfl
  cases l with
  | nil =>
    have hx : rdBytes (bs []) false 1 = (bs [], bs [], true) := rfl
    rw [hx] at hok
    dsimp only at hok
    rw [bs_list, if_neg (by decide), if_neg (by decide)] at hok
    cases hok
  | cons c l1 =>
    have hx : rdBytes (bs (c :: l1)) false 1 = (bs [c], bs l1, false) := rdBytes_app [c] l1 1 rfl
    rw [hx] at hok
    simp only [bs_list, beNum_one'] at hok
    by_cases h1 : c.toNat = 161
    · rw [if_pos h1, e4, rdBytes_bs] at hok
      by_cases h4 : l1.length < 4
      · rw [if_pos h4] at hok; dsimp only at hok; rw [nextT_bad] at hok; cases hok
      · rw [if_neg h4] at hok
        dsimp only at hok
        rw [bs_list] at hok
        have hl : c :: l1 = ([c] ++ l1.take 4) ++ l1.drop 4 := by simp
        rw [hl] at hok
        obtain ⟨b, more, g1, g2, g3⟩ := nextT_was _ _ _ _ (by omega) hok
        refine ⟨1, b, more, .inl rfl, g3, ?_⟩
        rw [packL_eq]
        have hh : headL 1 b.length = [c] ++ l1.take 4 := by
          unfold headL lenL
          rw [show ((160 : Int) + 1) = ((161 : Nat) : Int) from rfl, fixL_one 161 (by decide), if_pos rfl, ← g2, fix4_beNum _ (by simp; omega)]
          rw [← h1]; simp
        rw [hh, ← g1, hl]
    · rw [if_neg h1] at hok
      by_cases h2 : c.toNat = 162
      · rw [if_pos h2, rdVar_bs] at hok
        cases hv : varGo l1 0 0 with
        | none => rw [hv] at hok; dsimp only at hok; rw [nextT_bad] at hok; cases hok
        | some p =>
          obtain ⟨n, j⟩ := p
          rw [hv] at hok
          dsimp only at hok
          obtain ⟨w1, w2, w3⟩ := varGo_was hv
          have hl : c :: l1 = ([c] ++ putL n) ++ l1.drop j := by rw [List.append_assoc, ← w1]; rfl
          rw [hl] at hok
          obtain ⟨b, more, g1, g2, g3⟩ := nextT_was _ _ _ _ (by omega) hok
          refine ⟨2, b, more, .inr rfl, g3, ?_⟩
          rw [packL_eq]
          have hnb : n = b.length := by omega
          have hh : headL 2 b.length = [c] ++ putL n := by
            unfold headL lenL
            rw [show ((160 : Int) + 2) = ((162 : Nat) : Int) from rfl, fixL_one 162 (by decide), if_neg (by decide), hnb]
            rw [← h2]; simp
          rw [hh, ← g1, hl]
      · rw [if_neg h2] at hok; cases hok

/-- The reference's reader is the program's. -/
theorem nextQ_eq (s : ByteArray) : nextQ s = nextS s := by
  obtain ⟨l, rfl⟩ := of_bs s
  have key : ∀ v k s2 b2, nextQ (bs l) = nextQT (bs l) v k s2 b2 → (nextS (bs l)).2.2.2 = false → nextQ (bs l) = nextS (bs l) := by
    intro v k s2 b2 h1 h2
    rw [nextS_no _ h2, h1]
    rcases nextQT_was l v k s2 b2 with h | ⟨b, more, hv, hb, he⟩
    · exact h
    · rw [he, nextS_pack v hv b more hb] at h2
      cases h2
  by_cases hn : (nextS (bs l)).2.2.2 = false
  · unfold nextQ at key ⊢
    split at key
    · rename_i hc; rw [if_pos hc]; exact key _ _ _ _ rfl hn
    · rename_i hc; rw [if_neg hc]; exact key _ _ _ _ rfl hn
  · obtain ⟨v, b, more, hv, hb, rfl⟩ := nextS_was l (by simpa using hn)
    rw [nextS_pack v hv b more hb, nextQ_pack v hv b more hb]
end Go.Proofs.Ytacdbglocpaeaaa
