/-
  Plain laws of the frame: a proper beginning of a packed text is no packed text, one byte more is none, and a text in which one byte behind the head differs is none (the sum tells every such pair apart).
-/
import Derived.Test.YtacdbglocpaeaaaFLaw2
namespace Go.Proofs.Ytacdbglocpaeaaa
open Go.RowKit

theorem crcBit_inj {x y : Nat} (hx : x < 4294967296) (hy : y < 4294967296) (h : crcBit x = crcBit y) : x = y := by
  have hx2 : x / 2 < 2 ^ 31 := by simp; omega
  have hy2 : y / 2 < 2 ^ 31 := by simp; omega
  have hk := Nat.xor_lt_two_pow hx2 hy2
  unfold crcBit at h
  have cancel : ∀ a b c : Nat, a ^^^ c = b ^^^ c → a = b := by
    intro a b c e
    have e2 := congrArg (· ^^^ c) e
    simpa [Nat.xor_assoc] using e2
  by_cases p : x % 2 = 1 <;> by_cases q : y % 2 = 1
  · rw [if_pos p, if_pos q] at h
    have := cancel _ _ _ h
    omega
  · rw [if_pos p, if_neg q, Nat.xor_zero] at h
    have e : x / 2 ^^^ y / 2 = 2197175160 := by rw [← h, ← Nat.xor_assoc, Nat.xor_self, Nat.zero_xor]
    rw [e] at hk
    exact absurd hk (by decide)
  · rw [if_neg p, if_pos q, Nat.xor_zero] at h
    have e : x / 2 ^^^ y / 2 = 2197175160 := by rw [h, Nat.xor_comm (y / 2), Nat.xor_assoc, Nat.xor_self, Nat.xor_zero]
    rw [e] at hk
    exact absurd hk (by decide)
  · rw [if_neg p, if_neg q, Nat.xor_zero, Nat.xor_zero] at h
    omega

theorem crcBits_inj (k : Nat) : ∀ {x y : Nat}, x < 4294967296 → y < 4294967296 → crcBits k x = crcBits k y → x = y := by
  induction k with
  | zero => exact fun _ _ h => h
  | succ k ih => exact fun hx hy h => crcBit_inj hx hy (ih (crcBit_lt hx) (crcBit_lt hy) h)

theorem xor_left_inj {a b c : Nat} (h : a ^^^ c = b ^^^ c) : a = b := by
  have e2 := congrArg (· ^^^ c) h
  simpa [Nat.xor_assoc] using e2

theorem crcByte_inj {x y : Nat} (hx : x < 4294967296) (hy : y < 4294967296) (c : UInt8) (h : crcByte x c = crcByte y c) : x = y :=
  xor_left_inj (crcBits_inj 8 (xor_byte_lt hx c) (xor_byte_lt hy c) h)

theorem crcByte_tells {x : Nat} (hx : x < 4294967296) {c d : UInt8} (h : crcByte x c = crcByte x d) : c = d := by
  have h1 := crcBits_inj 8 (xor_byte_lt hx c) (xor_byte_lt hx d) h
  rw [Nat.xor_comm x, Nat.xor_comm x] at h1
  exact UInt8.toNat_inj.mp (xor_left_inj h1)

theorem crcRun_inj (l : List UInt8) : ∀ {x y : Nat}, x < 4294967296 → y < 4294967296 → crcRun x l = crcRun y l → x = y := by
  induction l with
  | nil => exact fun _ _ h => h
  | cons c l ih => exact fun hx hy h => crcByte_inj hx hy c (ih (crcByte_lt hx c) (crcByte_lt hy c) h)

theorem crcMore_tells (sum : Nat) (a b : List UInt8) (c d : UInt8) (h : crcMore sum (a ++ c :: b) = crcMore sum (a ++ d :: b)) : c = d := by
  have h0 : 4294967295 - sum < 4294967296 := by omega
  have h1 := crcRun_lt a h0
  have lc := crcRun_lt (a ++ c :: b) h0
  have ld := crcRun_lt (a ++ d :: b) h0
  have e : crcRun (4294967295 - sum) (a ++ c :: b) = crcRun (4294967295 - sum) (a ++ d :: b) := by unfold crcMore at h; omega
  simp only [crcRun, List.foldl_append, List.foldl_cons] at e
  exact crcByte_tells h1 (crcRun_inj b (crcByte_lt h1 c) (crcByte_lt h1 d) e)

theorem packL_four (v : Int) (b : List UInt8) : 4 ≤ (packL v b).length := by
  rw [packL_length]; omega

theorem unpack_pack (v : Int) (hv : v = 1 ∨ v = 2) (b : List UInt8) (hb : b.length ≤ 1048576) : unpackOf (nextS (bs (packL v b))) (bs (packL v b)).size = (v, bs b, true) := by
  have h := nextS_pack v hv b [] hb
  rw [List.append_nil] at h
  rw [h, unpackOf, bs_size, if_neg (by simp)]

theorem unpack_more (v : Int) (hv : v = 1 ∨ v = 2) (b : List UInt8) (hb : b.length ≤ 1048576) (x : UInt8) : unpackOf (nextS (bs (packL v b ++ [x]))) (bs (packL v b ++ [x])).size = (0, bs [], false) := by
  rw [nextS_pack v hv b [x] hb, unpackOf, bs_size, if_pos (by right; simp; omega)]

theorem next_short (v : Int) (hv : v = 1 ∨ v = 2) (b : List UInt8) (hb : b.length ≤ 1048576) (k : Nat) (hk : k < (packL v b).length) : nextS (bs ((packL v b).take k)) = (0, bs [], 0, false) := by
  cases hok : (nextS (bs ((packL v b).take k))).2.2.2 with
  | false => exact nextS_no _ hok
  | true =>
    exfalso
    obtain ⟨v', b', more, hv', hb', e⟩ := nextS_was _ hok
    have e2 : packL v b = packL v' b' ++ (more ++ (packL v b).drop k) := by rw [← List.append_assoc, ← e, List.take_append_drop]
    have n1 := nextS_pack v hv b [] hb
    have n2 := nextS_pack v' hv' b' (more ++ (packL v b).drop k) hb'
    rw [List.append_nil] at n1
    rw [← e2, n1] at n2
    have n3 : (packL v b).length = (packL v' b').length := by
      have := congrArg (fun t => t.2.2.1) n2
      simp at this
      omega
    have n4 := congrArg List.length e
    simp at n4
    omega

theorem head_one (v : Int) (n : Nat) (h : v = 1 ∨ v = 2) : headL v n = UInt8.ofNat (160 + v.toNat) :: lenL v n := by
  rcases h with rfl | rfl
  · unfold headL; rw [show ((160 : Int) + 1) = ((161 : Nat) : Int) from rfl, fixL_one 161 (by decide)]; rfl
  · unfold headL; rw [show ((160 : Int) + 2) = ((162 : Nat) : Int) from rfl, fixL_one 162 (by decide)]; rfl

theorem len_same (v : Int) (n m : Nat) (hn : n ≤ 1048576) (hm : m ≤ 1048576) (x y : List UInt8) (h : lenL v n ++ x = lenL v m ++ y) : n = m := by
  unfold lenL at h
  by_cases hv : v = 1
  · rw [if_pos hv, if_pos hv] at h
    have e := congrArg (List.take 4) h
    rw [List.take_left' (fixL_length _ 4 (by decide)), List.take_left' (fixL_length _ 4 (by decide))] at e
    have e2 := congrArg (beNum 0) e
    rwa [beNum_fix4 n (by omega), beNum_fix4 m (by omega)] at e2
  · rw [if_neg hv, if_neg hv] at h
    have h1 := varGo_put n (by omega) x
    have h2 := varGo_put m (by omega) y
    rw [h, h2] at h1
    simp at h1
    exact h1.1.symm

theorem head_same (v v' : Int) (hv : v = 1 ∨ v = 2) (hv' : v' = 1 ∨ v' = 2) (n m : Nat) (hn : n ≤ 1048576) (hm : m ≤ 1048576) (x y : List UInt8) (h : headL v n ++ x = headL v' m ++ y) : v = v' ∧ n = m := by
  rw [head_one v n hv, head_one v' m hv'] at h
  simp only [List.cons_append, List.cons.injEq] at h
  have e : v = v' := by
    rcases hv with rfl | rfl <;> rcases hv' with rfl | rfl
    · rfl
    · exact absurd h.1 (by decide)
    · exact absurd h.1 (by decide)
    · rfl
  subst e
  exact ⟨rfl, len_same v n m hn hm x y h.2⟩

theorem drop_mid (a b : List UInt8) (x : UInt8) (j : Nat) : (a ++ x :: b).drop (a.length + (j + 1)) = b.drop j := by
  rw [← List.drop_drop, List.drop_left]
  rfl

theorem unpack_bent (v : Int) (hv : v = 1 ∨ v = 2) (l : List UInt8) (hl : l.length ≤ 1048576) (a b : List UInt8) (c d : UInt8) (hcd : c ≠ d)
    (hT : fixL (crcMore (crcMore 0 (headL v l.length)) l : Nat) 4 ++ l = a ++ c :: b) : unpackOf (nextS (bs (headL v l.length ++ (a ++ d :: b)))) (bs (headL v l.length ++ (a ++ d :: b))).size = (0, bs [], false) := by
  rw [unpackOf]
  split
  · rfl
  · rename_i hn
    exfalso
    simp only [not_or, ne_eq, Decidable.not_not, Bool.not_eq_false] at hn
    obtain ⟨hok, hsz⟩ := hn
    obtain ⟨v', b', more, hv', hb', e⟩ := nextS_was _ hok
    rw [e, nextS_pack v' hv' b' more hb', bs_size] at hsz
    have hm : more = [] := by
      apply List.eq_nil_of_length_eq_zero
      simp at hsz
      omega
    subst hm
    rw [packL_eq, List.append_nil] at e
    obtain ⟨rfl, hlen⟩ := head_same v v' hv hv' _ _ hl hb' _ _ e
    rw [← hlen] at e
    have e2 := List.append_cancel_left e
    generalize hF : fixL (crcMore (crcMore 0 (headL v l.length)) l : Nat) 4 = F at hT
    have lF : F.length = 4 := by rw [← hF]; exact fixL_length _ 4 (by decide)
    generalize hF' : fixL (crcMore (crcMore 0 (headL v l.length)) b' : Nat) 4 = F' at e2
    have lF' : F'.length = 4 := by rw [← hF']; exact fixL_length _ 4 (by decide)
    by_cases ha : a.length < 4
    · have d1 : l = (a ++ c :: b).drop 4 := by rw [← hT, List.drop_left' lF]
      have d2 : b' = (a ++ d :: b).drop 4 := by rw [e2, List.drop_left' lF']
      have d3 : b' = l := by
        rw [d1, d2]
        obtain ⟨j, hj⟩ : ∃ j, 4 = a.length + (j + 1) := ⟨3 - a.length, by omega⟩
        rw [hj, drop_mid, drop_mid]
      rw [d3] at hF' e2
      rw [hF] at hF'
      rw [← hF', hT] at e2
      exact hcd ((List.cons.inj (List.append_cancel_left e2)).1.symm)
    · have t1 : F = a.take 4 := by
        have := congrArg (List.take 4) hT
        rwa [List.take_left' lF, List.take_append_of_le_length (by omega)] at this
      have t2 : F' = a.take 4 := by
        have := congrArg (List.take 4) e2
        rw [List.take_left' lF', List.take_append_of_le_length (by omega)] at this
        exact this.symm
      have d1 : l = a.drop 4 ++ c :: b := by
        have := congrArg (List.drop 4) hT
        rwa [List.drop_left' lF, List.drop_append_of_le_length (by omega)] at this
      have d2 : b' = a.drop 4 ++ d :: b := by
        have := congrArg (List.drop 4) e2
        rw [List.drop_left' lF', List.drop_append_of_le_length (by omega)] at this
        exact this.symm
      rw [t1] at hF
      rw [t2] at hF'
      have hs := hF.trans hF'.symm
      have hb1 := congrArg (beNum 0) hs
      rw [beNum_fix4 _ (crcMore_lt _ _), beNum_fix4 _ (crcMore_lt _ _)] at hb1
      rw [d2] at hb1
      have : crcMore (crcMore 0 (headL v l.length)) l = crcMore (crcMore 0 (headL v l.length)) (a.drop 4 ++ c :: b) := congrArg _ d1
      rw [this] at hb1
      exact hcd (crcMore_tells _ _ _ _ _ hb1)
end Go.Proofs.Ytacdbglocpaeaaa
