/-
  Texts of this seat, joined: FLaw FLaw2.
-/
import Derived.Test.YtacdbglocpaeaaaZFNextQ
set_option linter.unusedSimpArgs false
set_option linter.unusedVariables false
namespace Go.Proofs.Ytacdbglocpaeaaa

theorem bs_nil_size : (bs []).size = 0 := rfl
theorem bs_extract (l : List UInt8) (a b : Nat) : (bs l).extract a b = bs ((l.take b).drop a) := by
  apply ByteArray.ext
  apply Array.toList_inj.1
  have h := Lib.extract_data (bs l) a b
  rw [bs_list] at h
  rw [h, bs_list, List.drop_take]

theorem rdBytes_bs (l : List UInt8) (n : Nat) : rdBytes (bs l) false n = if l.length < n then (bs [], bs [], true) else (bs (l.take n), bs (l.drop n), false) := by
  unfold rdBytes
  by_cases h : l.length < n
  · rw [if_pos (by right; right; rw [bs_size]; omega), if_pos h]; rfl
  · rw [if_neg (by rw [bs_size]; simp; omega), if_neg h, Int.toNat_natCast, bs_extract, bs_extract, bs_size]
    simp

theorem rdBytes_bad (s : ByteArray) (n : Int) : rdBytes s true n = (bs [], bs [], true) := by
  unfold rdBytes; rw [if_pos (.inl rfl)]; rfl

theorem rdVar_bs (l : List UInt8) (b : Bool) : rdVar (bs l) b = match varGo l 0 0 with | some (n, k) => ((n : Int), bs (l.drop k), b) | none => (0, bs [], true) := by
  unfold rdVar
  rw [bs_list]
  cases varGo l 0 0 with
  | none => rfl
  | some p =>
    obtain ⟨n, k⟩ := p
    dsimp only
    rw [bs_extract, bs_size]; simp

/-! ### numbers of seven bits a byte, on lists -/
theorem varGo_run (pre t : List UInt8) (hp : ∀ b ∈ pre, 128 ≤ b.toNat) : ∀ done : List UInt8, done.length + pre.length ≤ 10 → (∀ b ∈ done, 128 ≤ b.toNat) →
    varGo (pre ++ t) done.length (vval done % 18446744073709551616) = varGo t (done.length + pre.length) (vval (done ++ pre) % 18446744073709551616) := by
  induction pre with
  | nil => intro done _ _; simp
  | cons c pre ih =>
    intro done hl hd
    have hc := hp c (by simp)
    simp only [List.length_cons] at hl
    rw [List.cons_append, varGo, if_neg (by omega), if_pos hc]
    have hlt := vval_lt done
    have h2 : (128 : Nat) ^ done.length ≤ 128 ^ 9 := Nat.pow_le_pow_right (by decide) (by omega)
    have h3 : (128 : Nat) ^ 9 = 9223372036854775808 := by decide
    rw [Nat.mod_eq_of_lt (show vval done < 18446744073709551616 by omega), vS_val (by omega)]
    have h := ih (fun b hb => hp b (by simp [hb])) (done ++ [c]) (by simp; omega) (by
      intro b hb
      rcases List.mem_append.1 hb with h | h
      · exact hd b h
      · simp at h; subst h; exact hc)
    simp only [List.length_append, List.length_cons, List.length_nil, List.append_assoc, List.cons_append, List.nil_append] at h
    rw [Nat.zero_add] at h
    rw [h]
    congr 1
    simp only [List.length_cons]; omega

theorem varGo_pre (pre t : List UInt8) (hp : ∀ b ∈ pre, 128 ≤ b.toNat) (hl : pre.length ≤ 10) : varGo (pre ++ t) 0 0 = varGo t pre.length (vval pre % 18446744073709551616) := by
  have := varGo_run pre t hp [] (by simpa using hl) (by simp)
  simpa [vval] using this

theorem Own.split {l : List UInt8} (h : Own l) : ∃ pre c, l = pre ++ [c] ∧ (∀ b ∈ pre, 128 ≤ b.toNat) ∧ c.toNat < 128 := by
  induction h with
  | last c hc => exact ⟨[], c, rfl, by simp, hc⟩
  | more c r hc _ _ ih =>
    obtain ⟨pre, d, h1, h2, h3⟩ := ih
    refine ⟨c :: pre, d, by rw [h1]; rfl, ?_, h3⟩
    intro b hb
    rcases List.mem_cons.1 hb with h | h
    · subst h; exact hc
    · exact h2 b h

theorem pow10 : (18446744073709551616 : Nat) ≤ 128 ^ 10 := by decide

/-- What was put is read. -/
theorem varGo_put (n : Nat) (hn : n < 18446744073709551616) (t : List UInt8) : varGo (putL n ++ t) 0 0 = some (n, (putL n).length) := by
  have h10 := pow10
  obtain ⟨pre, c, h1, h2, h3⟩ := (own_put 9 n (by omega)).split
  have hl : pre.length ≤ 9 := by
    have := putL_length n
    rw [show putL n = pre ++ [c] from h1] at this
    simp at this; omega
  have hv : vval (pre ++ [c]) = n := by rw [← h1]; exact vval_put 10 n (by omega)
  have e : putL n = pre ++ [c] := h1
  rw [e, List.append_assoc, varGo_pre pre _ h2 (by omega)]
  have hlt := vval_lt pre
  have h4 : (128 : Nat) ^ pre.length ≤ 128 ^ 9 := Nat.pow_le_pow_right (by decide) hl
  have h5 : (128 : Nat) ^ 9 = 9223372036854775808 := by decide
  rw [Nat.mod_eq_of_lt (show vval pre < 18446744073709551616 by omega)]
  have hS := vS_val (c := c) hl
  rw [hv, Nat.mod_eq_of_lt hn] at hS
  have ht := (put_test hl h2 h3).1 (by rw [hS]; exact e)
  simp only [List.cons_append, List.nil_append]
  rw [varGo, if_neg (by omega), if_neg (by omega), if_neg ht, hS]
  simp

theorem varGo_some (l : List UInt8) : ∀ i n m k, varGo l i n = some (m, k) → ∃ pre c t, l = pre ++ c :: t ∧ (∀ b ∈ pre, 128 ≤ b.toNat) ∧ c.toNat < 128 ∧ k = i + pre.length + 1 ∧ i + pre.length ≤ 9 := by
  induction l with
  | nil => intro i n m k h; simp [varGo] at h
  | cons c l ih =>
    intro i n m k h
    rw [varGo] at h
    by_cases h10 : 10 ≤ i
    · rw [if_pos h10] at h; cases h
    · rw [if_neg h10] at h
      by_cases hc : 128 ≤ c.toNat
      · rw [if_pos hc] at h
        obtain ⟨pre, d, t, h1, h2, h3, h4, h5⟩ := ih _ _ _ _ h
        refine ⟨c :: pre, d, t, by rw [h1]; rfl, ?_, h3, by simp; omega, by simp; omega⟩
        intro b hb
        rcases List.mem_cons.1 hb with h | h
        · subst h; exact hc
        · exact h2 b h
      · rw [if_neg hc] at h
        split at h
        · cases h
        · cases h
          exact ⟨[], c, l, rfl, by simp, by omega, by simp, by simp; omega⟩

/-- What is read was put. -/
theorem varGo_was {l : List UInt8} {n k : Nat} (h : varGo l 0 0 = some (n, k)) : l = putL n ++ l.drop k ∧ k = (putL n).length ∧ n < 18446744073709551616 := by
  obtain ⟨pre, c, t, h1, h2, h3, h4, h5⟩ := varGo_some l 0 0 n k h
  have hn := varGo_lt l 0 0 (by decide) n k h
  have hl : pre.length ≤ 9 := by omega
  have hlt := vval_lt pre
  have h6 : (128 : Nat) ^ pre.length ≤ 128 ^ 9 := Nat.pow_le_pow_right (by decide) hl
  have h7 : (128 : Nat) ^ 9 = 9223372036854775808 := by decide
  rw [h1, varGo_pre pre _ h2 (by omega), Nat.mod_eq_of_lt (show vval pre < 18446744073709551616 by omega), varGo, if_neg (by omega), if_neg (by omega)] at h
  by_cases hb : (0 < pre.length ∧ c.toNat = 0) ∨ (pre.length = 9 ∧ 1 < c.toNat)
  · rw [if_pos hb] at h; cases h
  · rw [if_neg hb] at h
    have hm : vS (vval pre) c.toNat pre.length = n := by simpa using congrArg (fun o => (o.map Prod.fst).getD 0) h
    have hp := (put_test hl h2 h3).2 hb
    rw [hm] at hp
    refine ⟨?_, by rw [hp]; simp; omega, hn⟩
    rw [hp, h1, h4]
    have : (pre ++ c :: t).drop (0 + pre.length + 1) = t := by
      rw [show 0 + pre.length + 1 = pre.length + 1 from by omega, ← List.drop_drop]
      simp
    rw [this]; simp

/-! ### numbers of four bytes, of one byte -/
theorem fixL_one (n : Nat) (h : n < 256) : fixL n 1 = [UInt8.ofNat n] := by
  have e : List.drop (8 - 1) (List.range 8) = [7] := rfl
  have h7 : fixB (n : Int) 7 = (n : Int) := by unfold fixB; simp; omega
  unfold fixL
  rw [e]
  simp only [List.map_cons, List.map_nil, h7, Int.toNat_natCast]

theorem fixL_four (n : Nat) : fixL n 4 = [UInt8.ofNat (n / 16777216 % 256), UInt8.ofNat (n / 65536 % 256), UInt8.ofNat (n / 256 % 256), UInt8.ofNat (n % 256)] := by
  have e : List.drop (8 - 4) (List.range 8) = [4, 5, 6, 7] := rfl
  have h4 : fixB (n : Int) 4 = ((n / 16777216 % 256 : Nat) : Int) := by unfold fixB; simp
  have h5 : fixB (n : Int) 5 = ((n / 65536 % 256 : Nat) : Int) := by unfold fixB; simp
  have h6 : fixB (n : Int) 6 = ((n / 256 % 256 : Nat) : Int) := by unfold fixB; simp
  have h7 : fixB (n : Int) 7 = ((n % 256 : Nat) : Int) := by unfold fixB; simp
  unfold fixL
  rw [e]
  simp only [List.map_cons, List.map_nil, h4, h5, h6, h7, Int.toNat_natCast]

theorem beNum_four (a b c d : UInt8) : beNum 0 [a, b, c, d] = a.toNat * 16777216 + b.toNat * 65536 + c.toNat * 256 + d.toNat := by
  have := a.toNat_lt; have := b.toNat_lt; have := c.toNat_lt; have := d.toNat_lt
  simp only [beNum, List.foldl_cons, List.foldl_nil, beStep]
  omega

theorem beNum_fix4 (n : Nat) (h : n < 4294967296) : beNum 0 (fixL n 4) = n := by
  rw [fixL_four, beNum_four]
  simp
  omega

theorem fix4_beNum (l : List UInt8) (h : l.length = 4) : fixL (beNum 0 l : Nat) 4 = l := by
  match l, h with
  | [a, b, c, d], _ =>
    have ha := a.toNat_lt; have hb := b.toNat_lt; have hc := c.toNat_lt; have hd := d.toNat_lt
    rw [beNum_four, fixL_four]
    have h1 : (a.toNat * 16777216 + b.toNat * 65536 + c.toNat * 256 + d.toNat) / 16777216 % 256 = a.toNat := by omega
    have h2 : (a.toNat * 16777216 + b.toNat * 65536 + c.toNat * 256 + d.toNat) / 65536 % 256 = b.toNat := by omega
    have h3 : (a.toNat * 16777216 + b.toNat * 65536 + c.toNat * 256 + d.toNat) / 256 % 256 = c.toNat := by omega
    have h4 : (a.toNat * 16777216 + b.toNat * 65536 + c.toNat * 256 + d.toNat) % 256 = d.toNat := by omega
    rw [h1, h2, h3, h4]
    simp

theorem beNum_one' (c : UInt8) : beNum 0 [c] = c.toNat := by
  have := c.toNat_lt
  simp only [beNum, List.foldl_cons, List.foldl_nil, beStep]
  omega

end Go.Proofs.Ytacdbglocpaeaaa

namespace Go.Proofs.Ytacdbglocpaeaaa

theorem rdBytes_app (x y : List UInt8) (n : Int) (h : n = (x.length : Int)) : rdBytes (bs (x ++ y)) false n = (bs x, bs y, false) := by
  subst h
  rw [rdBytes_bs, if_neg (by simp)]
  simp

theorem lenL_length (v : Int) (n : Nat) : (lenL v n).length ≤ 10 := by have := lenL_size v n; rwa [bs_size] at this

theorem crc4_be (x : Nat) (h : x < 4294967296) : beNum 0 (bs (fixL (x : Nat) 4)).data.toList = x := by rw [bs_list, beNum_fix4 x h]

theorem nextT_pack (v : Int) (h b more : List UInt8) (k : Int) (hk : k = (b.length : Int)) (hb : b.length ≤ 1048576) :
    nextT (bs (h ++ (fixL (crcMore (crcMore 0 h) b : Nat) 4 ++ (b ++ more)))) v k (bs (fixL (crcMore (crcMore 0 h) b : Nat) 4 ++ (b ++ more))) false =
      (v, bs b, ((h.length + 4 + b.length : Nat) : Int), true) := by
  have h4 : (fixL (crcMore (crcMore 0 h) b : Nat) 4).length = 4 := fixL_length _ _ (by decide)
  have hcrc := crcMore_lt (crcMore 0 h) b
  generalize hC : crcMore (crcMore 0 h) b = C at *
  unfold nextT
  rw [rdBytes_app (fixL (C : Nat) 4) (b ++ more) 4 (by rw [h4]; rfl)]
  dsimp only
  rw [if_neg (by rw [bs_size]; simp; omega), rdBytes_app b more k hk]
  dsimp only
  have hex : (bs (h ++ (fixL (C : Nat) 4 ++ (b ++ more)))).extract 0 ((bs (h ++ (fixL (C : Nat) 4 ++ (b ++ more)))).size - (bs (fixL (C : Nat) 4 ++ (b ++ more))).size) = bs h := by
    rw [bs_extract, bs_size, bs_size, List.length_append, Nat.add_sub_cancel]
    simp
  rw [hex, bs_list, bs_list, hC, crc4_be C hcrc, if_pos rfl, bs_size, bs_size]
  simp only [List.length_append, h4, Prod.mk.injEq, true_and, and_true]
  omega

theorem packL_eq (v : Int) (b more : List UInt8) : packL v b ++ more = headL v b.length ++ (fixL (crcMore (crcMore 0 (headL v b.length)) b : Nat) 4 ++ (b ++ more)) := by
  unfold packL; simp

theorem packL_length (v : Int) (b : List UInt8) : (packL v b).length = (headL v b.length).length + 4 + b.length := by
  unfold packL
  simp only [List.length_append, fixL_length _ _ (show 4 ≤ 8 by decide)]

/-- What was packed is read, with whatever stands behind it. -/
theorem nextS_pack (v : Int) (hv : v = 1 ∨ v = 2) (b more : List UInt8) (hb : b.length ≤ 1048576) : nextS (bs (packL v b ++ more)) = (v, bs b, ((packL v b).length : Int), true) := by
  rw [packL_length, packL_eq]
  have hT := nextT_pack v (headL v b.length) b more b.length rfl hb
  generalize hR : fixL (crcMore (crcMore 0 (headL v b.length)) b : Nat) 4 ++ (b ++ more) = R at *
  rcases hv with rfl | rfl
  · have e : headL 1 b.length ++ R = [161] ++ (fixL (b.length : Nat) 4 ++ R) := by
      unfold headL lenL
      rw [show ((160 : Int) + 1) = ((161 : Nat) : Int) from rfl, fixL_one 161 (by decide), if_pos rfl]
      simp
    unfold nextS
    rw [e] at hT ⊢
    rw [rdBytes_app [161] _ 1 rfl]
    dsimp only
    rw [bs_list, if_pos (by rw [beNum_one']; rfl), rdBytes_app (fixL (b.length : Nat) 4) R 4 (by rw [fixL_length _ _ (by decide)]; rfl)]
    dsimp only
    rw [crc4_be b.length (by omega)]
    exact hT
  · have e : headL 2 b.length ++ R = [162] ++ (putL b.length ++ R) := by
      unfold headL lenL
      rw [show ((160 : Int) + 2) = ((162 : Nat) : Int) from rfl, fixL_one 162 (by decide), if_neg (by decide)]
      simp
    unfold nextS
    rw [e] at hT ⊢
    rw [rdBytes_app [162] _ 1 rfl]
    dsimp only
    rw [bs_list, if_neg (by rw [beNum_one']; decide), if_pos (by rw [beNum_one']; rfl), rdVar_bs, varGo_put b.length (by omega)]
    dsimp only
    rw [List.drop_left]
    exact hT

/-- The same of the reference's. -/
theorem nextQT_pack (v : Int) (hv : v = 1 ∨ v = 2) (b more : List UInt8) (k : Int) (hk : k = (b.length : Int)) (hb : b.length ≤ 1048576) :
    nextQT (bs (packL v b ++ more)) v k (bs (fixL (crcMore (crcMore 0 (headL v b.length)) b : Nat) 4 ++ (b ++ more))) false = (v, bs b, ((packL v b).length : Int), true) := by
  have h4 : (fixL (crcMore (crcMore 0 (headL v b.length)) b : Nat) 4).length = 4 := fixL_length _ _ (by decide)
  have hp : packR v b = (packL v b, true) := by rw [packR, if_pos (by omega)]
  unfold nextQT
  rw [rdBytes_app _ (b ++ more) 4 (by rw [h4]; rfl)]
  dsimp only
  rw [if_neg (by rw [bs_size]; simp; omega), rdBytes_app b more k hk]
  dsimp only
  rw [bs_list, hp]
  dsimp only
  rw [if_neg, bs_size]
  rw [bs_size, bs_size, bs_extract, Lib.toList_data, Lib.toList_data, bs_list, bs_list]
  simp

theorem nextQ_pack (v : Int) (hv : v = 1 ∨ v = 2) (b more : List UInt8) (hb : b.length ≤ 1048576) : nextQ (bs (packL v b ++ more)) = (v, bs b, ((packL v b).length : Int), true) := by
  have hT := nextQT_pack v hv b more b.length rfl hb
  rw [packL_eq] at hT ⊢
  generalize hR : fixL (crcMore (crcMore 0 (headL v b.length)) b : Nat) 4 ++ (b ++ more) = R at *
  rcases hv with rfl | rfl
  · have e : headL 1 b.length ++ R = [161] ++ (fixL (b.length : Nat) 4 ++ R) := by
      unfold headL lenL
      rw [show ((160 : Int) + 1) = ((161 : Nat) : Int) from rfl, fixL_one 161 (by decide), if_pos rfl]
      simp
    unfold nextQ
    rw [e] at hT ⊢
    rw [rdBytes_app [161] _ 1 rfl]
    dsimp only
    rw [bs_list, if_pos (by rw [beNum_one']; rfl), rdBytes_app (fixL (b.length : Nat) 4) R 4 (by rw [fixL_length _ _ (by decide)]; rfl)]
    dsimp only
    rw [crc4_be b.length (by omega)]
    exact hT
  · have e : headL 2 b.length ++ R = [162] ++ (putL b.length ++ R) := by
      unfold headL lenL
      rw [show ((160 : Int) + 2) = ((162 : Nat) : Int) from rfl, fixL_one 162 (by decide), if_neg (by decide)]
      simp
    unfold nextQ
    rw [e] at hT ⊢
    rw [rdBytes_app [162] _ 1 rfl]
    dsimp only
    rw [bs_list, if_neg (by rw [beNum_one']; decide), rdVar_bs, varGo_put b.length (by omega)]
    dsimp only
    rw [List.drop_left, beNum_one']
    exact hT

theorem nextT_no (s : ByteArray) (v k : Int) (s2 : ByteArray) (b2 : Bool) (h : (nextT s v k s2 b2).2.2.2 = false) : nextT s v k s2 b2 = (0, bs [], 0, false) := by
  unfold nextT at *
  split at h
  · rw [if_pos (by assumption)]
  · rw [if_neg (by assumption)]
    split at h
    · cases h
    · rw [if_neg (by assumption)]

theorem nextS_no (s : ByteArray) (h : (nextS s).2.2.2 = false) : nextS s = (0, bs [], 0, false) := by
  unfold nextS at *
  split at h
  · rw [if_pos (by assumption)]; exact nextT_no _ _ _ _ _ h
  · rw [if_neg (by assumption)]
    split at h
    · rw [if_pos (by assumption)]; exact nextT_no _ _ _ _ _ h
    · rw [if_neg (by assumption)]

/-- What the reference reads begins with what it packs. -/
theorem nextQT_was (l : List UInt8) (v k : Int) (s2 : ByteArray) (b2 : Bool) : nextQT (bs l) v k s2 b2 = (0, bs [], 0, false) ∨
    ∃ b more, (v = 1 ∨ v = 2) ∧ b.length ≤ 1048576 ∧ l = packL v b ++ more := by
  unfold nextQT
  by_cases h1 : ((rdBytes s2 b2 4).2.1.size : Int) < k
  · rw [if_pos h1]; exact .inl rfl
  · rw [if_neg h1]
    generalize rdBytes (rdBytes s2 b2 4).2.1 (rdBytes s2 b2 4).2.2 k = x4
    obtain ⟨bd, s4, b4⟩ := x4
    dsimp only
    by_cases h2 : b4 = true ∨ (packR v bd.data.toList).2 = false ∨ (bs l).size < (bs (packR v bd.data.toList).1).size ∨ ((bs l).extract 0 (bs (packR v bd.data.toList).1).size).toList ≠ (bs (packR v bd.data.toList).1).toList
    · rw [if_pos h2]; exact .inl rfl
    · refine .inr ?_
      by_cases hc : 1 ≤ v ∧ v ≤ 2 ∧ bd.data.toList.length ≤ 1048576
      · have hp : packR v bd.data.toList = (packL v bd.data.toList, true) := by rw [packR, if_pos hc]
        rw [hp] at h2
        dsimp only at h2
        have h3 : ((bs l).extract 0 (bs (packL v bd.data.toList)).size).toList = (bs (packL v bd.data.toList)).toList := Decidable.not_not.1 (fun hn => h2 (.inr (.inr (.inr hn))))
        rw [bs_extract, Lib.toList_data, Lib.toList_data, bs_list, bs_list, bs_size, List.drop_zero] at h3
        refine ⟨bd.data.toList, l.drop (packL v bd.data.toList).length, by omega, hc.2.2, ?_⟩
        have h4 := List.take_append_drop (packL v bd.data.toList).length l
        rw [h3] at h4
        exact h4.symm
      · have hp : packR v bd.data.toList = ([], false) := by rw [packR, if_neg hc]
        exact absurd (.inr (.inl (by rw [hp]))) h2

theorem nextT_was (h l2 : List UInt8) (v k : Int) (hk : 0 ≤ k) (hok : (nextT (bs (h ++ l2)) v k (bs l2) false).2.2.2 = true) :
    ∃ b more, l2 = fixL (crcMore (crcMore 0 h) b : Nat) 4 ++ (b ++ more) ∧ k = (b.length : Int) ∧ b.length ≤ 1048576 := by
  unfold nextT at hok
  have e4 : (4 : Int) = ((4 : Nat) : Int) := rfl
  rw [e4, rdBytes_bs] at hok
  by_cases h4 : l2.length < 4
  · rw [if_pos h4] at hok; dsimp only at hok; rw [if_pos (.inl rfl)] at hok; cases hok
  · rw [if_neg h4] at hok
    dsimp only at hok
    by_cases hc : (False ∨ 1048576 < k ∨ ((bs (l2.drop 4)).size : Int) < k)
    · rw [if_pos (by simpa using hc)] at hok; cases hok
    · rw [if_neg (by simpa using hc)] at hok
      rw [bs_size] at hc
      obtain ⟨n, rfl⟩ := Int.eq_ofNat_of_zero_le hk
      have hn : n ≤ (l2.drop 4).length := by omega
      have hx : rdBytes (bs (l2.drop 4)) false (n : Int) = (bs ((l2.drop 4).take n), bs ((l2.drop 4).drop n), false) := by rw [rdBytes_bs, if_neg (by omega)]
      rw [hx] at hok
      dsimp only at hok
      have hex : (bs (h ++ l2)).extract 0 ((bs (h ++ l2)).size - (bs l2).size) = bs h := by
        rw [bs_extract, bs_size, bs_size, List.length_append, Nat.add_sub_cancel]; simp
      rw [hex, bs_list, bs_list, bs_list] at hok
      split at hok
      · rename_i hcrc
        refine ⟨(l2.drop 4).take n, (l2.drop 4).drop n, ?_, by simp at hn ⊢; omega, by simp at hn ⊢; omega⟩
        rw [hcrc, fix4_beNum (l2.take 4) (by simp; omega), List.take_append_drop, List.take_append_drop]
      · cases hok

theorem nextT_bad (s : ByteArray) (v k : Int) (s2 : ByteArray) : (nextT s v k s2 true).2.2.2 = false := by
  unfold nextT
  rw [rdBytes_bad, if_pos (.inl rfl)]

/-- What is read begins with what is packed. -/
theorem nextS_was (l : List UInt8) (hok : (nextS (bs l)).2.2.2 = true) : ∃ v b more, (v = 1 ∨ v = 2) ∧ b.length ≤ 1048576 ∧ l = packL v b ++ more := by
  unfold nextS at hok
  have e1 : (1 : Int) = ((1 : Nat) : Int) := rfl
  have e4 : (4 : Int) = ((4 : Nat) : Int) := rfl
  cases l with
  | nil =>
    have hx : rdBytes (bs []) false 1 = (bs [], bs [], true) := rfl
    rw [hx] at hok
    dsimp only at hok
    rw [bs_list, if_neg (by decide), if_neg (by decide)] at hok
    cases hok
  | cons c l1 =>
    have hx : rdBytes (bs (c :: l1)) false 1 = (bs [c], bs l1, false) := rdBytes_app [c] l1 1 rfl
    rw [hx] at hok
    simp only [bs_list, beNum_one'] at hok
    by_cases h1 : c.toNat = 161
    · rw [if_pos h1, e4, rdBytes_bs] at hok
      by_cases h4 : l1.length < 4
      · rw [if_pos h4] at hok; dsimp only at hok; rw [nextT_bad] at hok; cases hok
      · rw [if_neg h4] at hok
        dsimp only at hok
        rw [bs_list] at hok
        have hl : c :: l1 = ([c] ++ l1.take 4) ++ l1.drop 4 := by simp
        rw [hl] at hok
        obtain ⟨b, more, g1, g2, g3⟩ := nextT_was _ _ _ _ (by omega) hok
        refine ⟨1, b, more, .inl rfl, g3, ?_⟩
        rw [packL_eq]
        have hh : headL 1 b.length = [c] ++ l1.take 4 := by
          unfold headL lenL
          rw [show ((160 : Int) + 1) = ((161 : Nat) : Int) from rfl, fixL_one 161 (by decide), if_pos rfl, ← g2, fix4_beNum _ (by simp; omega)]
          rw [← h1]; simp
        rw [hh, ← g1, hl]
    · rw [if_neg h1] at hok
      by_cases h2 : c.toNat = 162
      · rw [if_pos h2, rdVar_bs] at hok
        cases hv : varGo l1 0 0 with
        | none => rw [hv] at hok; dsimp only at hok; rw [nextT_bad] at hok; cases hok
        | some p =>
          obtain ⟨n, j⟩ := p
          rw [hv] at hok
          dsimp only at hok
          obtain ⟨w1, w2, w3⟩ := varGo_was hv
          have hl : c :: l1 = ([c] ++ putL n) ++ l1.drop j := by rw [List.append_assoc, ← w1]; rfl
          rw [hl] at hok
          obtain ⟨b, more, g1, g2, g3⟩ := nextT_was _ _ _ _ (by omega) hok
          refine ⟨2, b, more, .inr rfl, g3, ?_⟩
          rw [packL_eq]
          have hnb : n = b.length := by omega
          have hh : headL 2 b.length = [c] ++ putL n := by
            unfold headL lenL
            rw [show ((160 : Int) + 2) = ((162 : Nat) : Int) from rfl, fixL_one 162 (by decide), if_neg (by decide), hnb]
            rw [← h2]; simp
          rw [hh, ← g1, hl]
      · rw [if_neg h2] at hok; cases hok

/-- The reference's reader is the program's. -/
theorem nextQ_eq (s : ByteArray) : nextQ s = nextS s := by
  obtain ⟨l, rfl⟩ := of_bs s
  have key : ∀ v k s2 b2, nextQ (bs l) = nextQT (bs l) v k s2 b2 → (nextS (bs l)).2.2.2 = false → nextQ (bs l) = nextS (bs l) := by
    intro v k s2 b2 h1 h2
    rw [nextS_no _ h2, h1]
    rcases nextQT_was l v k s2 b2 with h | ⟨b, more, hv, hb, he⟩
    · exact h
    · rw [he, nextS_pack v hv b more hb] at h2
      cases h2
  by_cases hn : (nextS (bs l)).2.2.2 = false
  · unfold nextQ at key ⊢
    split at key
    · rename_i hc; rw [if_pos hc]; exact key _ _ _ _ rfl hn
    · rename_i hc; rw [if_neg hc]; exact key _ _ _ _ rfl hn
  · obtain ⟨v, b, more, hv, hb, rfl⟩ := nextS_was l (by simpa using hn)
    rw [nextS_pack v hv b more hb, nextQ_pack v hv b more hb]
end Go.Proofs.Ytacdbglocpaeaaa
