/-
  Plain laws on frames: what was packed is read again; what is read was packed; the reference's reader is the program's.
-/
import Derived.Test.YtacdbglocpaeaaaFNextQ
namespace Go.Proofs.Ytacdbglocpaeaaa

theorem bs_nil_size : (bs []).size = 0 := rfl
theorem bs_extract (l : List UInt8) (a b : Nat) : (bs l).extract a b = bs ((l.take b).drop a) := by
  apply ByteArray.ext
  apply Array.toList_inj.1
  have h := Lib.extract_data (bs l) a b
  rw [bs_list] at h
  rw [h, bs_list, List.drop_take]

theorem rdBytes_bs (l : List UInt8) (n : Nat) : rdBytes (bs l) false n = if l.length < n then (bs [], bs [], true) else (bs (l.take n), bs (l.drop n), false) := by
  unfold rdBytes
  by_cases h : l.length < n
  · rw [if_pos (by right; right; rw [bs_size]; omega), if_pos h]; rfl
  · rw [if_neg (by rw [bs_size]; simp; omega), if_neg h, Int.toNat_natCast, bs_extract, bs_extract, bs_size]
    simp

theorem rdBytes_bad (s : ByteArray) (n : Int) : rdBytes s true n = (bs [], bs [], true) := by
  unfold rdBytes; rw [if_pos (.inl rfl)]; rfl

theorem rdVar_bs (l : List UInt8) (b : Bool) : rdVar (bs l) b = match varGo l 0 0 with | some (n, k) => ((n : Int), bs (l.drop k), b) | none => (0, bs [], true) := by
  unfold rdVar
  rw [bs_list]
  cases varGo l 0 0 with
  | none => rfl
  | some p =>
    obtain ⟨n, k⟩ := p
    dsimp only
    rw [bs_extract, bs_size]; simp

/-! ### numbers of seven bits a byte, on lists -/
theorem varGo_run (pre t : List UInt8) (hp : ∀ b ∈ pre, 128 ≤ b.toNat) : ∀ done : List UInt8, done.length + pre.length ≤ 10 → (∀ b ∈ done, 128 ≤ b.toNat) →
    varGo (pre ++ t) done.length (vval done % 18446744073709551616) = varGo t (done.length + pre.length) (vval (done ++ pre) % 18446744073709551616) := by
  induction pre with
  | nil => intro done _ _; simp
  | cons c pre ih =>
    intro done hl hd
    have hc := hp c (by simp)
    simp only [List.length_cons] at hl
    rw [List.cons_append, varGo, if_neg (by omega), if_pos hc]
    have hlt := vval_lt done
    have h2 : (128 : Nat) ^ done.length ≤ 128 ^ 9 := Nat.pow_le_pow_right (by decide) (by omega)
    have h3 : (128 : Nat) ^ 9 = 9223372036854775808 := by decide
    rw [Nat.mod_eq_of_lt (show vval done < 18446744073709551616 by omega), vS_val (by omega)]
    have h := ih (fun b hb => hp b (by simp [hb])) (done ++ [c]) (by simp; omega) (by
      intro b hb
      rcases List.mem_append.1 hb with h | h
      · exact hd b h
      · simp at h; subst h; exact hc)
    simp only [List.length_append, List.length_cons, List.length_nil, List.append_assoc, List.cons_append, List.nil_append] at h
    rw [Nat.zero_add] at h
    rw [h]
    congr 1
    simp only [List.length_cons]; omega

theorem varGo_pre (pre t : List UInt8) (hp : ∀ b ∈ pre, 128 ≤ b.toNat) (hl : pre.length ≤ 10) : varGo (pre ++ t) 0 0 = varGo t pre.length (vval pre % 18446744073709551616) := by
  have := varGo_run pre t hp [] (by simpa using hl) (by simp)
  simpa [vval] using this

theorem Own.split {l : List UInt8} (h : Own l) : ∃ pre c, l = pre ++ [c] ∧ (∀ b ∈ pre, 128 ≤ b.toNat) ∧ c.toNat < 128 := by
  induction h with
  | last c hc => exact ⟨[], c, rfl, by simp, hc⟩
  | more c r hc _ _ ih =>
    obtain ⟨pre, d, h1, h2, h3⟩ := ih
    refine ⟨c :: pre, d, by rw [h1]; rfl, ?_, h3⟩
    intro b hb
    rcases List.mem_cons.1 hb with h | h
    · subst h; exact hc
    · exact h2 b h

theorem pow10 : (18446744073709551616 : Nat) ≤ 128 ^ 10 := by decide

/-- What was put is read. -/
theorem varGo_put (n : Nat) (hn : n < 18446744073709551616) (t : List UInt8) : varGo (putL n ++ t) 0 0 = some (n, (putL n).length) := by
  have h10 := pow10
  obtain ⟨pre, c, h1, h2, h3⟩ := (own_put 9 n (by omega)).split
  have hl : pre.length ≤ 9 := by
    have := putL_length n
    rw [show putL n = pre ++ [c] from h1] at this
    simp at this; omega
  have hv : vval (pre ++ [c]) = n := by rw [← h1]; exact vval_put 10 n (by omega)
  have e : putL n = pre ++ [c] := h1
  rw [e, List.append_assoc, varGo_pre pre _ h2 (by omega)]
  have hlt := vval_lt pre
  have h4 : (128 : Nat) ^ pre.length ≤ 128 ^ 9 := Nat.pow_le_pow_right (by decide) hl
  have h5 : (128 : Nat) ^ 9 = 9223372036854775808 := by decide
  rw [Nat.mod_eq_of_lt (show vval pre < 18446744073709551616 by omega)]
  have hS := vS_val (c := c) hl
  rw [hv, Nat.mod_eq_of_lt hn] at hS
  have ht := (put_test hl h2 h3).1 (by rw [hS]; exact e)
  simp only [List.cons_append, List.nil_append]
  rw [varGo, if_neg (by omega), if_neg (by omega), if_neg ht, hS]
  simp

theorem varGo_some (l : List UInt8) : ∀ i n m k, varGo l i n = some (m, k) → ∃ pre c t, l = pre ++ c :: t ∧ (∀ b ∈ pre, 128 ≤ b.toNat) ∧ c.toNat < 128 ∧ k = i + pre.length + 1 ∧ i + pre.length ≤ 9 := by
  induction l with
  | nil => intro i n m k h; simp [varGo] at h
  | cons c l ih =>
    intro i n m k h
    rw [varGo] at h
    by_cases h10 : 10 ≤ i
    · rw [if_pos h10] at h; cases h
    · rw [if_neg h10] at h
      by_cases hc : 128 ≤ c.toNat
      · rw [if_pos hc] at h
        obtain ⟨pre, d, t, h1, h2, h3, h4, h5⟩ := ih _ _ _ _ h
        refine ⟨c :: pre, d, t, by rw [h1]; rfl, ?_, h3, by simp; omega, by simp; omega⟩
        intro b hb
        rcases List.mem_cons.1 hb with h | h
        · subst h; exact hc
        · exact h2 b h
      · rw [if_neg hc] at h
        split at h
        · cases h
        · cases h
          exact ⟨[], c, l, rfl, by simp, by omega, by simp, by simp; omega⟩

/-- What is read was put. -/
theorem varGo_was {l : List UInt8} {n k : Nat} (h : varGo l 0 0 = some (n, k)) : l = putL n ++ l.drop k ∧ k = (putL n).length ∧ n < 18446744073709551616 := by
  obtain ⟨pre, c, t, h1, h2, h3, h4, h5⟩ := varGo_some l 0 0 n k h
  have hn := varGo_lt l 0 0 (by decide) n k h
  have hl : pre.length ≤ 9 := by omega
  have hlt := vval_lt pre
  have h6 : (128 : Nat) ^ pre.length ≤ 128 ^ 9 := Nat.pow_le_pow_right (by decide) hl
  have h7 : (128 : Nat) ^ 9 = 9223372036854775808 := by decide
  rw [h1, varGo_pre pre _ h2 (by omega), Nat.mod_eq_of_lt (show vval pre < 18446744073709551616 by omega), varGo, if_neg (by omega), if_neg (by omega)] at h
  by_cases hb : (0 < pre.length ∧ c.toNat = 0) ∨ (pre.length = 9 ∧ 1 < c.toNat)
  · rw [if_pos hb] at h; cases h
  · rw [if_neg hb] at h
    have hm : vS (vval pre) c.toNat pre.length = n := by simpa using congrArg (fun o => (o.map Prod.fst).getD 0) h
    have hp := (put_test hl h2 h3).2 hb
    rw [hm] at hp
    refine ⟨?_, by rw [hp]; simp; omega, hn⟩
    rw [hp, h1, h4]
    have : (pre ++ c :: t).drop (0 + pre.length + 1) = t := by
      rw [show 0 + pre.length + 1 = pre.length + 1 from by omega, ← List.drop_drop]
      simp
    rw [this]; simp

/-! ### numbers of four bytes, of one byte -/
theorem fixL_one (n : Nat) (h : n < 256) : fixL n 1 = [UInt8.ofNat n] := by
  have e : List.drop (8 - 1) (List.range 8) = [7] := rfl
  have h7 : fixB (n : Int) 7 = (n : Int) := by unfold fixB; simp; omega
  unfold fixL
  rw [e]
  simp only [List.map_cons, List.map_nil, h7, Int.toNat_natCast]

theorem fixL_four (n : Nat) : fixL n 4 = [UInt8.ofNat (n / 16777216 % 256), UInt8.ofNat (n / 65536 % 256), UInt8.ofNat (n / 256 % 256), UInt8.ofNat (n % 256)] := by
  have e : List.drop (8 - 4) (List.range 8) = [4, 5, 6, 7] := rfl
  have h4 : fixB (n : Int) 4 = ((n / 16777216 % 256 : Nat) : Int) := by unfold fixB; simp
  have h5 : fixB (n : Int) 5 = ((n / 65536 % 256 : Nat) : Int) := by unfold fixB; simp
  have h6 : fixB (n : Int) 6 = ((n / 256 % 256 : Nat) : Int) := by unfold fixB; simp
  have h7 : fixB (n : Int) 7 = ((n % 256 : Nat) : Int) := by unfold fixB; simp
  unfold fixL
  rw [e]
  simp only [List.map_cons, List.map_nil, h4, h5, h6, h7, Int.toNat_natCast]

theorem beNum_four (a b c d : UInt8) : beNum 0 [a, b, c, d] = a.toNat * 16777216 + b.toNat * 65536 + c.toNat * 256 + d.toNat := by
  have := a.toNat_lt; have := b.toNat_lt; have := c.toNat_lt; have := d.toNat_lt
  simp only [beNum, List.foldl_cons, List.foldl_nil, beStep]
  omega

theorem beNum_fix4 (n : Nat) (h : n < 4294967296) : beNum 0 (fixL n 4) = n := by
  rw [fixL_four, beNum_four]
  simp
  omega

theorem fix4_beNum (l : List UInt8) (h : l.length = 4) : fixL (beNum 0 l : Nat) 4 = l := by
  match l, h with
  | [a, b, c, d], _ =>
    have ha := a.toNat_lt; have hb := b.toNat_lt; have hc := c.toNat_lt; have hd := d.toNat_lt
    rw [beNum_four, fixL_four]
    have h1 : (a.toNat * 16777216 + b.toNat * 65536 + c.toNat * 256 + d.toNat) / 16777216 % 256 = a.toNat := by omega
    have h2 : (a.toNat * 16777216 + b.toNat * 65536 + c.toNat * 256 + d.toNat) / 65536 % 256 = b.toNat := by omega
    have h3 : (a.toNat * 16777216 + b.toNat * 65536 + c.toNat * 256 + d.toNat) / 256 % 256 = c.toNat := by omega
    have h4 : (a.toNat * 16777216 + b.toNat * 65536 + c.toNat * 256 + d.toNat) % 256 = d.toNat := by omega
    rw [h1, h2, h3, h4]
    simp

theorem beNum_one' (c : UInt8) : beNum 0 [c] = c.toNat := by
  have := c.toNat_lt
  simp only [beNum, List.foldl_cons, List.foldl_nil, beStep]
  omega

end Go.Proofs.Ytacdbglocpaeaaa
