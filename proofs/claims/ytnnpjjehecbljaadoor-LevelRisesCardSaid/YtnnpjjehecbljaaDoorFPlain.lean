/-
  Plain laws on numbers and bytes: no program is in sight.
-/
import Derived.Test.YtnnpjjehecbljaaDoorFBase
import Derived.Laws.Bits64b
namespace Go.Proofs.YtnnpjjehecbljaaDoor

theorem foldl_take_succ {α : Type} (f : α → UInt8 → α) (x : α) (l : List UInt8) (k : Nat) (h : k < l.length) : (l.take (k + 1)).foldl f x = f ((l.take k).foldl f x) (l.getD k 0) := by
  rw [List.take_succ_eq_append_getElem h, List.foldl_append, List.getD_eq_getElem?_getD, List.getElem?_eq_getElem h]; rfl

/-- A text of bytes. -/
def bs (l : List UInt8) : ByteArray := ⟨l.toArray⟩
theorem bs_append (a b : List UInt8) : bs a ++ bs b = bs (a ++ b) := by
  apply ByteArray.ext
  simp [bs]
theorem bs_list (l : List UInt8) : (bs l).data.toList = l := by simp [bs]
theorem bs_of (s : ByteArray) : bs s.data.toList = s := by
  apply ByteArray.ext
  simp [bs]
theorem bs_size (l : List UInt8) : (bs l).size = l.length := by
  show l.toArray.size = _
  simp
theorem of_bs (s : ByteArray) : ∃ l, s = bs l := ⟨s.data.toList, (bs_of s).symm⟩

/-! ### numbers of a fixed size, the most significant byte first -/
def beStep (a : Nat) (b : UInt8) : Nat := (a * 256 + b.toNat) % 18446744073709551616
def beNum (n : Nat) (l : List UInt8) : Nat := l.foldl beStep n

theorem beStep_lt (a : Nat) (b : UInt8) : beStep a b < 18446744073709551616 := Nat.mod_lt _ (by decide)
theorem beNum_lt (l : List UInt8) : ∀ {n : Nat}, n < 18446744073709551616 → beNum n l < 18446744073709551616 := by
  induction l with
  | nil => exact fun h => h
  | cons c l ih => exact fun _ => ih (beStep_lt _ _)
theorem beNum_succ (n : Nat) (l : List UInt8) (k : Nat) (h : k < l.length) : beNum n (l.take (k + 1)) = beStep (beNum n (l.take k)) (l.getD k 0) := foldl_take_succ beStep n l k h

theorem or_add_nat (a b i : Nat) (ha : a % 2 ^ i = 0) (hb : b < 2 ^ i) : a ||| b = a + b := by
  have hq : a = 2 ^ i * (a / 2 ^ i) := by have := Nat.div_add_mod a (2 ^ i); omega
  rw [hq, ← Nat.two_pow_add_eq_or_of_lt hb]

/-- As the program has it. -/
theorem beStep_bits {q : Int} {a : Nat} (hq : q = (a : Int)) (b : UInt8) {d : Int} (hd : d = (b.toNat : Int)) :
    bits BinOp.or IntKind.u64 (IntKind.u64.wrap (q * 256)) (IntKind.u64.wrap d) = ((beStep a b : Nat) : Int) := by
  subst hq hd
  have hb := b.toNat_lt
  have h1 : IntKind.u64.wrap ((a : Int) * 256) = ((a * 256 % 18446744073709551616 : Nat) : Int) := by rw [IntKind.wrap_u64]; omega
  have h2 : IntKind.u64.wrap ((b.toNat : Nat) : Int) = ((b.toNat : Nat) : Int) := by rw [IntKind.wrap_u64]; omega
  rw [h1, h2, bits_or_u64_nat _ _ (Nat.mod_lt _ (by decide)) (by omega), or_add_nat _ _ 8 (by omega) (by omega)]
  unfold beStep
  omega

/-! ### numbers of seven bits a byte -/
/-- A number's bytes, seven bits each, the lowest ones first. -/
def putF : Nat → Nat → List UInt8
  | 0, _ => []
  | f + 1, n => if n < 128 then [UInt8.ofNat n] else UInt8.ofNat (n % 128 + 128) :: putF f (n / 128)
def putL (n : Nat) : List UInt8 := putF 10 n

theorem putF_length (f : Nat) : ∀ n, (putF f n).length ≤ f := by
  induction f with
  | zero => intro n; simp [putF]
  | succ f ih => intro n; rw [putF]; split; simp; simpa using ih _
theorem putL_length (n : Nat) : (putL n).length ≤ 10 := putF_length 10 n

def vS (n c k : Nat) : Nat := n ||| (c % 128 * 2 ^ (7 * k) % 18446744073709551616)

theorem vS_lt {n c k : Nat} (hn : n < 18446744073709551616) : vS n c k < 18446744073709551616 := by
  have := Nat.or_lt_two_pow (n := 64) (x := n) (y := c % 128 * 2 ^ (7 * k) % 18446744073709551616) (by simpa using hn) (by simpa using Nat.mod_lt _ (by decide))
  simpa [vS] using this

/-- The number that stands at the head, and how many bytes it has. -/
def varGo : List UInt8 → Nat → Nat → Option (Nat × Nat)
  | [], _, _ => none
  | c :: rest, i, n =>
    if 10 ≤ i then none
    else if 128 ≤ c.toNat then varGo rest (i + 1) (vS n c.toNat i)
    else if (0 < i ∧ c.toNat = 0) ∨ (i = 9 ∧ 1 < c.toNat) then none else some (vS n c.toNat i, i + 1)

theorem andNot128 : ∀ r : Fin 256, bits BinOp.andNot IntKind.u8 (r.val : Int) 128 = (r.val : Int) % 128 := by decide +kernel

theorem andNot_u8 {c : Nat} (h : c < 256) : bits BinOp.andNot IntKind.u8 (c : Int) 128 = ((c % 128 : Nat) : Int) := by
  have h1 : bits BinOp.andNot IntKind.u8 (c : Int) 128 = (c : Int) % 128 := andNot128 ⟨c, h⟩
  rw [h1]; omega

theorem vS_bits {q : Int} {n c k : Nat} (hq : q = (n : Int)) (hn : n < 18446744073709551616) (hc : c < 256) :
    bits BinOp.or IntKind.u64 q (IntKind.u64.wrap (IntKind.u64.wrap (bits BinOp.andNot IntKind.u8 (c : Int) 128) * 2 ^ (7 * k))) = ((vS n c k : Nat) : Int) := by
  subst hq
  rw [andNot_u8 hc]
  have h1 : IntKind.u64.wrap (((c % 128 : Nat) : Int)) = ((c % 128 : Nat) : Int) := by rw [IntKind.wrap_u64]; omega
  rw [h1, IntKind.wrap_u64]
  have h2 : ((c % 128 : Nat) : Int) * 2 ^ (7 * k) % 18446744073709551616 = ((c % 128 * 2 ^ (7 * k) % 18446744073709551616 : Nat) : Int) := by simp
  rw [h2, bits_or_u64_nat _ _ hn (Nat.mod_lt _ (by decide))]
  rfl

/-- What bytes stand for. -/
def vval : List UInt8 → Nat
  | [] => 0
  | c :: r => c.toNat % 128 + 128 * vval r

theorem vval_snoc (l : List UInt8) (c : UInt8) : vval (l ++ [c]) = vval l + c.toNat % 128 * 128 ^ l.length := by
  induction l with
  | nil => simp [vval]
  | cons a l ih =>
    rw [List.cons_append, vval, ih, vval, List.length_cons, Nat.pow_succ]
    have : 128 * (c.toNat % 128 * 128 ^ l.length) = c.toNat % 128 * (128 ^ l.length * 128) := by
      rw [Nat.mul_comm 128, Nat.mul_assoc]
    rw [Nat.mul_add, this]; omega

theorem vval_lt (l : List UInt8) : vval l < 128 ^ l.length := by
  induction l with
  | nil => simp [vval]
  | cons a l ih =>
    rw [vval, List.length_cons, Nat.pow_succ]
    omega

theorem vval_put (f : Nat) : ∀ n, n < 128 ^ f → vval (putF f n) = n := by
  induction f with
  | zero => intro n h; simp at h; subst h; rfl
  | succ f ih =>
    intro n h
    rw [putF]
    split
    · simp [vval]; omega
    · rw [vval, ih _ (by rw [Nat.pow_succ] at h; omega)]
      simp
      omega

/-- A number's own bytes: the last one alone is below 128; it is not 0, or it is alone. -/
inductive Own : List UInt8 → Prop
  | last (c : UInt8) : c.toNat < 128 → Own [c]
  | more (c : UInt8) (r : List UInt8) : 128 ≤ c.toNat → Own r → vval r ≠ 0 → Own (c :: r)

theorem own_put (f : Nat) : ∀ n, n < 128 ^ (f + 1) → Own (putF (f + 1) n) := by
  induction f with
  | zero => intro n h; rw [putF, if_pos (by omega)]; exact .last _ (by simp; omega)
  | succ f ih =>
    intro n h
    rw [putF]
    split
    · exact .last _ (by simp; omega)
    · have hd : n / 128 < 128 ^ (f + 1) := by rw [Nat.pow_succ] at h; omega
      exact .more _ _ (by simp; omega) (ih _ hd) (by rw [vval_put _ _ hd]; omega)

theorem put_own {l : List UInt8} (h : Own l) : ∀ f, l.length ≤ f → putF f (vval l) = l := by
  induction h with
  | last c hc =>
    intro f hf
    obtain ⟨f, rfl⟩ : ∃ m, f = m + 1 := ⟨f - 1, by simp at hf; omega⟩
    have : vval [c] = c.toNat := by simp [vval]; omega
    rw [this, putF, if_pos hc]; simp
  | more c r hc _ hv ih =>
    intro f hf
    obtain ⟨f, rfl⟩ : ∃ m, f = m + 1 := ⟨f - 1, by simp at hf; omega⟩
    have hlt := c.toNat_lt
    rw [putF, if_neg (by rw [vval]; omega)]
    have h1 : vval (c :: r) % 128 + 128 = c.toNat := by rw [vval]; omega
    have h2 : vval (c :: r) / 128 = vval r := by rw [vval]; omega
    rw [h1, h2, ih f (by simpa using hf)]; simp

theorem Own.vval_zero {l : List UInt8} (h : Own l) (hv : vval l = 0) : l.length = 1 := by
  cases h with
  | last c hc => rfl
  | more c r hc hr hv' => rw [vval] at hv; omega

/-- Bytes of 128 and more, and one below it behind them. -/
theorem own_iff (l : List UInt8) (c : UInt8) (hl : ∀ b ∈ l, 128 ≤ b.toNat) (hc : c.toNat < 128) : Own (l ++ [c]) ↔ (l = [] ∨ c.toNat ≠ 0) := by
  induction l with
  | nil => simp; exact .last c hc
  | cons a l ih =>
    have ih' := ih (fun b hb => hl b (by simp [hb]))
    constructor
    · intro h
      refine .inr ?_
      rw [List.cons_append] at h
      generalize hm : l ++ [c] = m at *
      cases h with
      | last _ h => simp at hm
      | more _ _ h1 h2 h3 =>
        rcases ih'.1 h2 with h4 | h4
        · subst h4; intro h5; apply h3; rw [← hm]; simp [vval, h5]
        · exact h4
    · intro h
      rcases h with h | h
      · cases h
      · have h1 := ih'.2 (.inr h)
        refine .more a _ (hl a (by simp)) h1 ?_
        show vval (l ++ [c]) ≠ 0
        rw [vval_snoc]
        have : 0 < c.toNat % 128 * 128 ^ l.length := Nat.mul_pos (by omega) (Nat.pow_pos (by decide))
        omega

theorem pow128 (k : Nat) : (2 : Nat) ^ (7 * k) = 128 ^ k := by rw [Nat.pow_mul]

/-- One step, as numbers. -/
theorem vS_val {l : List UInt8} {c : UInt8} (hl : l.length ≤ 9) : vS (vval l) c.toNat l.length = vval (l ++ [c]) % 18446744073709551616 := by
  have h1 := vval_lt l
  rw [vval_snoc, vS, pow128]
  by_cases h9 : l.length ≤ 8
  · have h2 : (128 : Nat) ^ l.length ≤ 128 ^ 8 := Nat.pow_le_pow_right (by decide) h9
    have h3 : c.toNat % 128 * 128 ^ l.length ≤ 127 * 128 ^ l.length := Nat.mul_le_mul_right _ (by omega)
    have h4 : (128 : Nat) ^ 8 = 72057594037927936 := by decide
    have h5 : c.toNat % 128 * 128 ^ l.length % 18446744073709551616 = c.toNat % 128 * 128 ^ l.length := Nat.mod_eq_of_lt (by omega)
    rw [h5, Nat.or_comm, or_add_nat _ _ (7 * l.length) (by rw [pow128]; exact Nat.mul_mod_left _ _) (by rw [pow128]; exact h1)]
    generalize c.toNat % 128 * 128 ^ l.length = z at *
    omega
  · have e : l.length = 9 := by omega
    rw [e] at h1 ⊢
    have h4 : (128 : Nat) ^ 9 = 9223372036854775808 := by decide
    rw [h4] at h1 ⊢
    rw [Nat.or_comm, or_add_nat _ _ 63 (by omega) (by omega)]
    omega

/-- The reference's test at the last byte says just what the program's says. -/
theorem put_test {l : List UInt8} {c : UInt8} (hl : l.length ≤ 9) (ha : ∀ b ∈ l, 128 ≤ b.toNat) (hc : c.toNat < 128) :
    putL (vS (vval l) c.toNat l.length) = l ++ [c] ↔ ¬ ((0 < l.length ∧ c.toNat = 0) ∨ (l.length = 9 ∧ 1 < c.toNat)) := by
  rw [vS_val hl]
  have hlen : (l ++ [c]).length = l.length + 1 := by simp
  have h10 : (18446744073709551616 : Nat) ≤ 128 ^ 10 := by decide
  constructor
  · intro h hbad
    have hmod : vval (l ++ [c]) % 18446744073709551616 < 18446744073709551616 := Nat.mod_lt _ (by decide)
    have hown := own_put 9 (vval (l ++ [c]) % 18446744073709551616) (by omega)
    rw [show putF (9 + 1) _ = _ from h] at hown
    rcases hbad with ⟨h1, h2⟩ | ⟨h1, h2⟩
    · rcases (own_iff l c ha hc).1 hown with h3 | h3
      · subst h3; simp at h1
      · exact h3 h2
    · have hv := vval_put 10 (vval (l ++ [c]) % 18446744073709551616) (by omega)
      rw [show putF 10 _ = _ from h, vval_snoc, h1] at hv
      have h4 : (128 : Nat) ^ 9 = 9223372036854775808 := by decide
      rw [h4] at hv
      rw [Nat.mod_eq_of_lt hc] at hv
      omega
  · intro h
    have hown : Own (l ++ [c]) := (own_iff l c ha hc).2 (by
      by_cases h1 : l = []
      · exact .inl h1
      · refine .inr fun h2 => h (.inl ⟨?_, h2⟩)
        rcases l with _ | ⟨a, l⟩
        · exact absurd rfl h1
        · simp)
    have hlt : vval (l ++ [c]) < 18446744073709551616 := by
      have h1 := vval_lt l
      rw [vval_snoc]
      by_cases h9 : l.length ≤ 8
      · have h2 : (128 : Nat) ^ l.length ≤ 128 ^ 8 := Nat.pow_le_pow_right (by decide) h9
        have h3 : c.toNat % 128 * 128 ^ l.length ≤ 127 * 128 ^ l.length := Nat.mul_le_mul_right _ (by omega)
        have h4 : (128 : Nat) ^ 8 = 72057594037927936 := by decide
        omega
      · have e : l.length = 9 := by omega
        rw [e] at h1 ⊢
        have h4 : (128 : Nat) ^ 9 = 9223372036854775808 := by decide
        rw [h4] at h1 ⊢
        have : c.toNat ≤ 1 := by
          rcases Nat.lt_or_ge 1 c.toNat with h5 | h5
          · exact absurd (.inr ⟨e, h5⟩) h
          · exact h5
        omega
    rw [Nat.mod_eq_of_lt hlt]
    exact put_own hown 10 (by rw [hlen]; omega)

end Go.Proofs.YtnnpjjehecbljaaDoor
