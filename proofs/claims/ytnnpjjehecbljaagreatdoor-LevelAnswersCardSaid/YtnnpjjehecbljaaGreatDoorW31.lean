/-
  Texts of this seat, joined: GPlain GPlain2 GMade LAnsW LAnsV LOpen ROpen LAOpen.
-/
import Derived.Test.YtnnpjjehecbljaaGreatDoorW30
import Derived.Test.YtnnpjjehecbljaaGreatDoorW03
import Derived.Test.YtnnpjjehecbljaaGreatDoorW16
import Derived.IntWalk
import Derived.Test.YtnnpjjehecbljaaGreatDoorW13
import Derived.Test.YtnnpjjehecbljaaGreatDoorRows
import Derived.Lay
import Derived.Handed
import Derived.LaidLaws
import Derived.WalkKit
import Derived.OpenShut
import Derived.Deep.Slices
import Derived.Deep.Fields
import Derived.ChangeSame
set_option linter.unusedSimpArgs false
set_option linter.unusedVariables false
namespace Go.Proofs.YtnnpjjehecbljaaGreatDoor
open Go.RowKit

/-! ### numbers of eight bytes -/
theorem fixL_eight (n : Nat) : fixL n 8 = [UInt8.ofNat (n / 72057594037927936 % 256), UInt8.ofNat (n / 281474976710656 % 256), UInt8.ofNat (n / 1099511627776 % 256), UInt8.ofNat (n / 4294967296 % 256), UInt8.ofNat (n / 16777216 % 256), UInt8.ofNat (n / 65536 % 256), UInt8.ofNat (n / 256 % 256), UInt8.ofNat (n % 256)] := by
  have e : List.drop (8 - 8) (List.range 8) = [0, 1, 2, 3, 4, 5, 6, 7] := rfl
  have h0 : fixB (n : Int) 0 = ((n / 72057594037927936 % 256 : Nat) : Int) := by unfold fixB; simp
  have h1 : fixB (n : Int) 1 = ((n / 281474976710656 % 256 : Nat) : Int) := by unfold fixB; simp
  have h2 : fixB (n : Int) 2 = ((n / 1099511627776 % 256 : Nat) : Int) := by unfold fixB; simp
  have h3 : fixB (n : Int) 3 = ((n / 4294967296 % 256 : Nat) : Int) := by unfold fixB; simp
  have h4 : fixB (n : Int) 4 = ((n / 16777216 % 256 : Nat) : Int) := by unfold fixB; simp
  have h5 : fixB (n : Int) 5 = ((n / 65536 % 256 : Nat) : Int) := by unfold fixB; simp
  have h6 : fixB (n : Int) 6 = ((n / 256 % 256 : Nat) : Int) := by unfold fixB; simp
  have h7 : fixB (n : Int) 7 = ((n % 256 : Nat) : Int) := by unfold fixB; simp
  unfold fixL
  rw [e]
  simp only [List.map_cons, List.map_nil, h0, h1, h2, h3, h4, h5, h6, h7, Int.toNat_natCast]

theorem beNum_eight (a b c d e f g h : UInt8) : beNum 0 [a, b, c, d, e, f, g, h] = a.toNat * 72057594037927936 + b.toNat * 281474976710656 + c.toNat * 1099511627776 + d.toNat * 4294967296 + e.toNat * 16777216 + f.toNat * 65536 + g.toNat * 256 + h.toNat := by
  have := a.toNat_lt; have := b.toNat_lt; have := c.toNat_lt; have := d.toNat_lt; have := e.toNat_lt; have := f.toNat_lt; have := g.toNat_lt; have := h.toNat_lt
  simp only [beNum, List.foldl_cons, List.foldl_nil]
  have s : ∀ (x y : Nat) (c : UInt8), x < y → y ≤ 72057594037927936 → beStep x c = x * 256 + c.toNat := fun x y c h1 h2 => by
    have := c.toNat_lt
    unfold beStep; omega
  rw [s 0 1 a (by omega) (by omega), s (0 * 256 + a.toNat) 256 b (by omega) (by omega), s _ 65536 c (by omega) (by omega), s _ 16777216 d (by omega) (by omega), s _ 4294967296 e (by omega) (by omega), s _ 1099511627776 f (by omega) (by omega), s _ 281474976710656 g (by omega) (by omega), s _ 72057594037927936 h (by omega) (by omega)]
  omega

theorem beNum_fix8 (n : Nat) (h : n < 18446744073709551616) : beNum 0 (fixL n 8) = n := by
  rw [fixL_eight, beNum_eight]
  simp
  omega

theorem fix8_beNum (l : List UInt8) (h : l.length = 8) : fixL (beNum 0 l : Nat) 8 = l := by
  match l, h with
  | [a, b, c, d, e, f, g, i], _ =>
    have ha := a.toNat_lt; have hb := b.toNat_lt; have hc := c.toNat_lt; have hd := d.toNat_lt; have he := e.toNat_lt; have hf := f.toNat_lt; have hg := g.toNat_lt; have hi := i.toNat_lt
    rw [beNum_eight, fixL_eight]
    obtain ⟨N, hN⟩ : ∃ N, a.toNat * 72057594037927936 + b.toNat * 281474976710656 + c.toNat * 1099511627776 + d.toNat * 4294967296 + e.toNat * 16777216 + f.toNat * 65536 + g.toNat * 256 + i.toNat = N := ⟨_, rfl⟩
    rw [hN]
    have h0 : N / 72057594037927936 % 256 = a.toNat := by omega
    have h1 : N / 281474976710656 % 256 = b.toNat := by omega
    have h2 : N / 1099511627776 % 256 = c.toNat := by omega
    have h3 : N / 4294967296 % 256 = d.toNat := by omega
    have h4 : N / 16777216 % 256 = e.toNat := by omega
    have h5 : N / 65536 % 256 = f.toNat := by omega
    have h6 : N / 256 % 256 = g.toNat := by omega
    have h7 : N % 256 = i.toNat := by omega
    rw [h0, h1, h2, h3, h4, h5, h6, h7]
    simp

theorem fix1_beNum (l : List UInt8) (h : l.length = 1) : fixL (beNum 0 l : Nat) 1 = l := by
  match l, h with
  | [a], _ =>
    have ha := a.toNat_lt
    rw [beNum_one', fixL_one _ ha]
    simp
theorem beNum_fix1 (n : Nat) (h : n < 256) : beNum 0 (fixL n 1) = n := by
  rw [fixL_one n h, beNum_one']
  simp
  omega

/-! ### an entry's bytes -/
def seg (l : List UInt8) (o k : Nat) : List UInt8 := (l.drop o).take k
def num (l : List UInt8) (o k : Nat) : Int := ((beNum 0 (seg l o k) : Nat) : Int)
def put5 (e : Ent) : List UInt8 :=
  fixL e.kind 1 ++ (fixL e.term 8 ++ (fixL e.index 8 ++ (fixL e.client 8 ++ (fixL e.seq 8 ++ (fixL e.block 4 ++ (fixL e.many 4 ++ (fixL e.node 1 ++ (fixL e.level 1 ++ (fixL (e.data.size : Nat) 1 ++ (e.data.data.toList ++ List.replicate (66 - e.data.size) 0))))))))))
def cut5 (l : List UInt8) : Nat := min (num l 43 1).toNat 66
def ent5 (l : List UInt8) : Ent := ⟨num l 1 8, num l 9 8, num l 0 1, num l 17 8, num l 25 8, num l 33 4, num l 37 4, num l 41 1, num l 42 1, bs ((seg l 44 66).take (cut5 l)), bs []⟩
def pad5 (l : List UInt8) : List UInt8 := (seg l 44 66).drop (cut5 l)
def ent0 : Ent := ⟨0, 0, 0, 0, 0, 0, 0, 0, 0, bs [], bs []⟩

theorem seg_length (l : List UInt8) (o k : Nat) (h : o + k ≤ l.length) : (seg l o k).length = k := by
  unfold seg; rw [List.length_take, List.length_drop]; omega
theorem seg_drop (l : List UInt8) (o k : Nat) : l.drop o = seg l o k ++ l.drop (o + k) := by
  unfold seg
  rw [← List.drop_drop, List.take_append_drop]
theorem seg_take (l : List UInt8) (o k n : Nat) (h : o + k ≤ n) : seg (l.take n) o k = seg l o k := by
  unfold seg
  rw [List.drop_take, List.take_take]
  congr 1
  omega
theorem ent5_take (l : List UInt8) : ent5 (l.take 110) = ent5 l := by
  unfold ent5 cut5 num
  simp only [seg_take l _ _ 110 (show 0 + 1 ≤ 110 by decide), seg_take l _ _ 110 (show 1 + 8 ≤ 110 by decide), seg_take l _ _ 110 (show 9 + 8 ≤ 110 by decide), seg_take l _ _ 110 (show 17 + 8 ≤ 110 by decide), seg_take l _ _ 110 (show 25 + 8 ≤ 110 by decide), seg_take l _ _ 110 (show 33 + 4 ≤ 110 by decide), seg_take l _ _ 110 (show 37 + 4 ≤ 110 by decide), seg_take l _ _ 110 (show 41 + 1 ≤ 110 by decide), seg_take l _ _ 110 (show 42 + 1 ≤ 110 by decide), seg_take l _ _ 110 (show 43 + 1 ≤ 110 by decide), seg_take l _ _ 110 (show 44 + 66 ≤ 110 by decide)]
theorem pad5_take (l : List UInt8) : pad5 (l.take 110) = pad5 l := by
  unfold pad5 cut5 num
  simp only [seg_take l _ _ 110 (show 43 + 1 ≤ 110 by decide), seg_take l _ _ 110 (show 44 + 66 ≤ 110 by decide)]
theorem num_u64 (l : List UInt8) (o k : Nat) : U64 (num l o k) := by
  have := beNum_lt (seg l o k) (n := 0) (by decide)
  unfold U64 num
  omega
theorem num_byte (l : List UInt8) (o : Nat) : 0 ≤ num l o 1 ∧ num l o 1 < 256 := by
  unfold num
  have h : (seg l o 1).length ≤ 1 := by unfold seg; rw [List.length_take]; omega
  match hs : seg l o 1, h with
  | [], _ => simp [beNum]
  | [a], _ =>
    have := a.toNat_lt
    rw [beNum_one']
    omega
theorem ent5_fits (l : List UInt8) : (ent5 l).Fits :=
  ⟨num_u64 l 1 8, num_u64 l 9 8, num_u64 l 17 8, num_u64 l 25 8, num_u64 l 33 4, num_u64 l 37 4, by
    show (bs _).size ≤ maxLen
    have : (seg l 44 66).length ≤ 66 := by unfold seg; rw [List.length_take]; omega
    rw [bs_size, List.length_take]; unfold maxLen; omega, by show (bs _).size ≤ maxLen; rw [bs_size]; exact Nat.zero_le _⟩

/-- The bytes, part by part. -/
theorem segs (l : List UInt8) (h : l.length = 110) : l = seg l 0 1 ++ (seg l 1 8 ++ (seg l 9 8 ++ (seg l 17 8 ++ (seg l 25 8 ++ (seg l 33 4 ++ (seg l 37 4 ++ (seg l 41 1 ++ (seg l 42 1 ++ (seg l 43 1 ++ seg l 44 66))))))))) := by
  have e : seg l 44 66 = l.drop 44 := by
    unfold seg
    exact List.take_of_length_le (by rw [List.length_drop]; omega)
  rw [e, ← seg_drop l 43 1, ← seg_drop l 42 1, ← seg_drop l 41 1, ← seg_drop l 37 4, ← seg_drop l 33 4, ← seg_drop l 25 8, ← seg_drop l 17 8, ← seg_drop l 9 8, ← seg_drop l 1 8, ← seg_drop l 0 1]
  rfl

theorem zeros_iff (l : List UInt8) : l = List.replicate l.length 0 ↔ ∀ x, x ∈ l → x = 0 := by
  constructor
  · intro h x hx
    rw [h] at hx
    exact (List.mem_replicate.1 hx).2
  · intro h
    exact List.eq_replicate_iff.2 ⟨rfl, h⟩

theorem put5_iff (l : List UInt8) (h : l.length = 110) (hd : (ent5 l).data.size ≤ 64) : put5 (ent5 l) = l ↔ ∀ x, x ∈ pad5 l → x = 0 := by
  have h66 := seg_length l 44 66 (by omega)
  have hn := num_byte l 43
  have hsz : (ent5 l).data.size = cut5 l := by
    show (bs _).size = _
    rw [bs_size, List.length_take, h66]
    unfold cut5; omega
  rw [hsz] at hd
  have hc : (cut5 l : Int) = num l 43 1 := by unfold cut5 at hd ⊢; omega
  have hpl : (pad5 l).length = 66 - cut5 l := by unfold pad5; rw [List.length_drop, h66]
  have hput : put5 (ent5 l) = seg l 0 1 ++ (seg l 1 8 ++ (seg l 9 8 ++ (seg l 17 8 ++ (seg l 25 8 ++ (seg l 33 4 ++ (seg l 37 4 ++ (seg l 41 1 ++ (seg l 42 1 ++ (seg l 43 1 ++ ((seg l 44 66).take (cut5 l) ++ List.replicate (66 - cut5 l) 0)))))))))) := by
    unfold put5
    rw [hsz, hc]
    show fixL (num l 0 1) 1 ++ (fixL (num l 1 8) 8 ++ (fixL (num l 9 8) 8 ++ (fixL (num l 17 8) 8 ++ (fixL (num l 25 8) 8 ++ (fixL (num l 33 4) 4 ++ (fixL (num l 37 4) 4 ++ (fixL (num l 41 1) 1 ++ (fixL (num l 42 1) 1 ++ (fixL (num l 43 1) 1 ++ ((bs ((seg l 44 66).take (cut5 l))).data.toList ++ List.replicate (66 - cut5 l) 0)))))))))) = _
    rw [bs_list]
    unfold num
    rw [fix1_beNum _ (seg_length l 0 1 (by omega)), fix8_beNum _ (seg_length l 1 8 (by omega)), fix8_beNum _ (seg_length l 9 8 (by omega)), fix8_beNum _ (seg_length l 17 8 (by omega)), fix8_beNum _ (seg_length l 25 8 (by omega)), fix4_beNum _ (seg_length l 33 4 (by omega)), fix4_beNum _ (seg_length l 37 4 (by omega)), fix1_beNum _ (seg_length l 41 1 (by omega)), fix1_beNum _ (seg_length l 42 1 (by omega)), fix1_beNum _ (seg_length l 43 1 (by omega))]
  have hs44 : seg l 44 66 = (seg l 44 66).take (cut5 l) ++ pad5 l := (List.take_append_drop _ _).symm
  rw [hput]
  constructor
  · intro he
    have hl := segs l h
    rw [hs44] at hl
    have he2 := he.trans hl
    simp only [List.append_cancel_left_eq] at he2
    exact (zeros_iff _).1 (by rw [hpl]; exact he2.symm)
  · intro hz
    have := (zeros_iff _).2 hz
    rw [hpl] at this
    rw [← this, ← hs44]
    exact (segs l h).symm

/-! ### what is right has little data -/
theorem ok_data (e : Ent) (h : e.ok = true) : e.data.size ≤ 64 := by
  unfold Ent.ok at h
  simp only [Bool.and_eq_true] at h
  have hf := h.2
  unfold fitB at hf
  simp only [Bool.not_eq_true', List.any_eq_false] at hf
  have hb := hf ⟨100, !e.data.toList.isEmpty, decide ((e.data.size : Int) ≤ 64)⟩ (by simp [Ent.flds])
  unfold Fld.bad at hb
  split at hb
  · simp at hb; omega
  · simp at hb
    rw [Lib.toList_data] at hb
    have : e.data.size = e.data.data.toList.length := rfl
    rw [this, hb]; simp
end Go.Proofs.YtnnpjjehecbljaaGreatDoor

namespace Go.Proofs.YtnnpjjehecbljaaGreatDoor
open Go.RowKit

/-! ### a reader of a list at a place -/
def numF (L : List UInt8) (o k : Nat) : Int := if o + k ≤ L.length then num L o k else 0
def strF (L : List UInt8) (o k : Nat) : List UInt8 := if o + k ≤ L.length then seg L o k else []
def stL (L : List UInt8) (o : Nat) : ByteArray × Bool := if o ≤ L.length then (bs (L.drop o), false) else (bs [], true)

theorem rdBytes_at (L : List UInt8) (o k : Nat) : rdBytes (stL L o).1 (stL L o).2 (k : Int) = (bs (strF L o k), (stL L (o + k)).1, (stL L (o + k)).2) := by
  unfold stL strF
  by_cases h : o ≤ L.length
  · rw [if_pos h, rdBytes_bs]
    by_cases h2 : o + k ≤ L.length
    · rw [if_neg (by rw [List.length_drop]; omega), if_pos h2, if_pos h2, List.drop_drop]
      rfl
    · rw [if_pos (by rw [List.length_drop]; omega), if_neg h2, if_neg h2]
  · rw [if_neg h, rdBytes_bad, if_neg (show ¬ o + k ≤ L.length by omega), if_neg (show ¬ o + k ≤ L.length by omega)]
theorem num_str (L : List UInt8) (o k : Nat) : ((beNum 0 (bs (strF L o k)).data.toList : Nat) : Int) = numF L o k := by
  rw [bs_list]
  unfold strF numF
  split
  · rfl
  · rfl
theorem numF_u64 (L : List UInt8) (o k : Nat) : U64 (numF L o k) := by
  unfold numF
  split
  · exact num_u64 L o k
  · unfold U64; omega
theorem numF_byte (L : List UInt8) (o : Nat) : 0 ≤ numF L o 1 ∧ numF L o 1 < 256 := by
  unfold numF
  split
  · exact num_byte L o
  · omega
theorem numF_four (L : List UInt8) (o : Nat) : 0 ≤ numF L o 4 ∧ numF L o 4 < 4294967296 := by
  unfold numF
  split
  · unfold num
    have h : (seg L o 4).length = 4 := seg_length L o 4 ‹_›
    match hs : seg L o 4, h with
    | [a, b, c, d], _ =>
      have := a.toNat_lt; have := b.toNat_lt; have := c.toNat_lt; have := d.toNat_lt
      rw [beNum_four]
      omega
  · omega
theorem num_drop (L : List UInt8) (o p k : Nat) : num (L.drop o) p k = num L (o + p) k := by
  unfold num seg
  rw [List.drop_drop]
theorem fixF1 (L : List UInt8) (o : Nat) (h : o + 1 ≤ L.length) : fixL (numF L o 1) 1 = seg L o 1 := by
  unfold numF num; rw [if_pos h]; exact fix1_beNum _ (seg_length L o 1 h)
theorem fixF4 (L : List UInt8) (o : Nat) (h : o + 4 ≤ L.length) : fixL (numF L o 4) 4 = seg L o 4 := by
  unfold numF num; rw [if_pos h]; exact fix4_beNum _ (seg_length L o 4 h)
theorem fixF8 (L : List UInt8) (o : Nat) (h : o + 8 ≤ L.length) : fixL (numF L o 8) 8 = seg L o 8 := by
  unfold numF num; rw [if_pos h]; exact fix8_beNum _ (seg_length L o 8 h)

/-! ### an entry -/
def good5 (l : List UInt8) : Bool := (ent5 l).ok && decide ((ent5 l).lvl ≤ 1) && (pad5 l).all (· == 0)
def get5 (L : List UInt8) (o : Nat) : Ent × Nat := if o + 110 ≤ L.length ∧ good5 (L.drop o) = true then (ent5 (L.drop o), o + 110) else (ent0, L.length + 1)

theorem put_got (l : List UInt8) (h : 110 ≤ l.length) (hok : (ent5 l).ok = true) : (pad5 l).all (· == 0) = true ↔ put5 (ent5 l) = l.take 110 := by
  have h2 := put5_iff (l.take 110) (by rw [List.length_take]; omega) (by rw [ent5_take]; exact ok_data _ hok)
  rw [ent5_take, pad5_take] at h2
  rw [h2, List.all_eq_true]
  simp only [beq_iff_eq]
theorem good5_put (l : List UInt8) (h : 110 ≤ l.length) : good5 l = ((ent5 l).ok && decide ((ent5 l).lvl ≤ 1) && decide (put5 (ent5 l) = l.take 110)) := by
  unfold good5
  cases hok : (ent5 l).ok with
  | false => rfl
  | true =>
    congr 1
    rw [Bool.eq_iff_iff, decide_eq_true_iff]
    exact put_got l h hok
theorem ent0_fits : ent0.Fits := by
  have hz : U64 0 := by unfold U64; omega
  exact ⟨hz, hz, hz, hz, hz, hz, Nat.zero_le _, Nat.zero_le _⟩
theorem get5_fits (L : List UInt8) (o : Nat) : (get5 L o).1.Fits := by
  unfold get5
  split
  · exact ent5_fits _
  · exact ent0_fits
theorem get5_bad (L : List UInt8) (o : Nat) (h : (get5 L o).2 ≤ L.length) : (get5 L o).2 = o + 110 ∧ o + 110 ≤ L.length ∧ put5 (get5 L o).1 = seg L o 110 := by
  unfold get5 at h ⊢
  split
  · rename_i hg
    obtain ⟨h1, h2⟩ := hg
    refine ⟨rfl, h1, ?_⟩
    rw [good5_put _ (by rw [List.length_drop]; omega)] at h2
    simp only [Bool.and_eq_true, decide_eq_true_eq] at h2
    exact h2.2
  · rename_i hg
    rw [if_neg hg] at h
    simp only at h
    omega

/-! ### entries, one behind the other -/
def getN (L : List UInt8) : Nat → Nat → List Ent × Nat
  | 0, o => ([], o)
  | n + 1, o => if L.length < o then ([], o) else ((get5 L o).1 :: (getN L n (get5 L o).2).1, (getN L n (get5 L o).2).2)

theorem getN_bad (L : List UInt8) (n o : Nat) (h : L.length < o) : getN L n o = ([], o) := by
  cases n with
  | zero => rfl
  | succ n => unfold getN; rw [if_pos h]
theorem getN_mono (L : List UInt8) (n : Nat) : ∀ o, L.length < o → L.length < (getN L n o).2 := fun o h => by rw [getN_bad L n o h]; exact h
theorem getN_ok (L : List UInt8) (n : Nat) : ∀ o, (getN L n o).2 ≤ L.length → (getN L n o).1.length = n ∧ (getN L n o).2 = o + 110 * n ∧ (getN L n o).1.flatMap put5 = seg L o (110 * n) := by
  induction n with
  | zero => intro o _; exact ⟨rfl, rfl, rfl⟩
  | succ n ih =>
    intro o h
    unfold getN at h ⊢
    by_cases hb : L.length < o
    · rw [if_pos hb] at h
      simp only at h
      omega
    · rw [if_neg hb] at h ⊢
      simp only at h ⊢
      have h2 : (get5 L o).2 ≤ L.length := by
        rcases Nat.lt_or_ge L.length (get5 L o).2 with h3 | h3
        · have := getN_mono L n _ h3; omega
        · exact h3
      obtain ⟨e1, e2, e3⟩ := get5_bad L o h2
      obtain ⟨i1, i2, i3⟩ := ih _ h
      refine ⟨by rw [List.length_cons, i1], by rw [i2, e1]; omega, ?_⟩
      rw [List.flatMap_cons, i3, e3, e1]
      unfold seg
      rw [show 110 * (n + 1) = 110 + 110 * n by omega, List.take_add, List.drop_drop]
theorem getN_fits (L : List UInt8) (n : Nat) : ∀ o e, e ∈ (getN L n o).1 → e.Fits := by
  induction n with
  | zero => intro o e h; cases h
  | succ n ih =>
    intro o e h
    unfold getN at h
    split at h
    · cases h
    · rcases List.mem_cons.1 h with h | h
      · rw [h]; exact get5_fits L o
      · exact ih _ _ h
theorem getN_le (L : List UInt8) (n : Nat) : ∀ o, (getN L n o).1.length ≤ n := by
  induction n with
  | zero => intro o; exact Nat.le_refl _
  | succ n ih =>
    intro o
    unfold getN
    split
    · exact Nat.zero_le _
    · rw [List.length_cons]; have := ih (get5 L o).2; omega

/-! ### a message -/
def yesN (y : Bool) : Int := if y = true then 1 else 0
def putM5 (m : Msg) : List UInt8 :=
  fixL m.kind 1 ++ (fixL m.sent 1 ++ (fixL m.goal 1 ++ (fixL m.term 8 ++ (fixL m.index 8 ++ (fixL m.prev 8 ++ (fixL m.commit 8 ++ (fixL m.mark 8 ++ (fixL (yesN m.yes) 1 ++ (fixL (m.ents.length : Nat) 1 ++ (m.ents.flatMap put5 ++ (fixL (m.snap.size : Nat) 4 ++ m.snap.data.toList)))))))))))
def entsN (L : List UInt8) : List Ent × Nat := getN L (numF L 44 1).toNat 45
def snapO (L : List UInt8) : Nat := (entsN L).2 + 4
def snapN (L : List UInt8) : Nat := (numF L (entsN L).2 4).toNat
def msg5 (L : List UInt8) : Msg := ⟨numF L 0 1, numF L 1 1, numF L 2 1, numF L 3 8, numF L 11 8, numF L 19 8, numF L 27 8, numF L 35 8, numF L 43 1 == 1, (entsN L).1, bs (strF L (snapO L) (snapN L))⟩
def endM (L : List UInt8) : Nat := snapO L + snapN L
def goodM (L : List UInt8) : Bool := decide (endM L = L.length) && decide (numF L 43 1 ≤ 1) && (msg5 L).ok && decide ((msg5 L).lvl ≤ 1)

theorem strF_le (L : List UInt8) (o k : Nat) : (strF L o k).length ≤ L.length := by
  unfold strF
  split
  · rw [seg_length L o k ‹_›]; omega
  · exact Nat.zero_le _
theorem msg5_fits (L : List UInt8) (h : L.length ≤ maxLen) : (msg5 L).Fits :=
  ⟨numF_u64 _ _ _, numF_u64 _ _ _, numF_u64 _ _ _, numF_u64 _ _ _, numF_u64 _ _ _, getN_fits L _ 45, by
    show (getN L (numF L 44 1).toNat 45).1.length ≤ maxLen
    have := getN_le L (numF L 44 1).toNat 45
    have := numF_byte L 44
    unfold maxLen; omega, by
    show (bs _).size ≤ maxLen
    rw [bs_size]
    have := strF_le L (snapO L) (snapN L)
    omega⟩

theorem entsN_ge (L : List UInt8) : 45 ≤ (entsN L).2 ∨ L.length < (entsN L).2 := by
  rcases Nat.lt_or_ge L.length (entsN L).2 with h | h
  · exact .inr h
  · have := (getN_ok L (numF L 44 1).toNat 45 h).2.1
    left
    show 45 ≤ (getN L _ 45).2
    omega

theorem goodM_put (L : List UInt8) (h : endM L ≤ L.length) : (endM L = L.length ∧ numF L 43 1 ≤ 1) ↔ putM5 (msg5 L) = L := by
  unfold endM snapO at h
  have hb : (entsN L).2 ≤ L.length := by omega
  obtain ⟨g1, g2, g3⟩ := getN_ok L (numF L 44 1).toNat 45 hb
  have h45 : 45 ≤ L.length := by have : (entsN L).2 = 45 + 110 * (numF L 44 1).toNat := g2; omega
  have hn := numF_byte L 44
  have hy := numF_byte L 43
  have hk := numF_four L (entsN L).2
  have hsn : strF L (snapO L) (snapN L) = seg L (snapO L) (snapN L) := by unfold strF; rw [if_pos (by unfold snapO; omega)]
  have hput : putM5 (msg5 L) = seg L 0 1 ++ (seg L 1 1 ++ (seg L 2 1 ++ (seg L 3 8 ++ (seg L 11 8 ++ (seg L 19 8 ++ (seg L 27 8 ++ (seg L 35 8 ++ (fixL (yesN (numF L 43 1 == 1)) 1 ++ (seg L 44 1 ++ (seg L 45 (110 * (numF L 44 1).toNat) ++ (seg L (entsN L).2 4 ++ seg L (snapO L) (snapN L)))))))))))) := by
    unfold putM5 msg5
    simp only
    have e1 : ((entsN L).1.length : Int) = numF L 44 1 := by
      have : (entsN L).1.length = (numF L 44 1).toNat := g1
      omega
    have e2 : (entsN L).1.flatMap put5 = seg L 45 (110 * (numF L 44 1).toNat) := g3
    have e3 : ((bs (strF L (snapO L) (snapN L))).size : Int) = numF L (entsN L).2 4 := by
      rw [hsn, bs_size, seg_length _ _ _ (by unfold snapO; omega)]
      unfold snapN; omega
    rw [e1, e2, e3, bs_list, hsn, fixF1 L 0 (by omega), fixF1 L 1 (by omega), fixF1 L 2 (by omega), fixF8 L 3 (by omega), fixF8 L 11 (by omega), fixF8 L 19 (by omega), fixF8 L 27 (by omega), fixF8 L 35 (by omega), fixF1 L 44 (by omega), fixF4 L _ (by omega)]
  have hL : L = seg L 0 1 ++ (seg L 1 1 ++ (seg L 2 1 ++ (seg L 3 8 ++ (seg L 11 8 ++ (seg L 19 8 ++ (seg L 27 8 ++ (seg L 35 8 ++ (seg L 43 1 ++ (seg L 44 1 ++ (seg L 45 (110 * (numF L 44 1).toNat) ++ (seg L (entsN L).2 4 ++ (seg L (snapO L) (snapN L) ++ L.drop (endM L))))))))))))) := by
    have e2 : (entsN L).2 = 45 + 110 * (numF L 44 1).toNat := g2
    have s1 : seg L (snapO L) (snapN L) ++ L.drop (endM L) = L.drop (snapO L) := (seg_drop L (snapO L) (snapN L)).symm
    have s2 : seg L (entsN L).2 4 ++ L.drop (snapO L) = L.drop (entsN L).2 := (seg_drop L (entsN L).2 4).symm
    rw [s1, s2, e2, ← seg_drop L 45 _, ← seg_drop L 44 1, ← seg_drop L 43 1, ← seg_drop L 35 8, ← seg_drop L 27 8, ← seg_drop L 19 8, ← seg_drop L 11 8, ← seg_drop L 3 8, ← seg_drop L 2 1, ← seg_drop L 1 1, ← seg_drop L 0 1]
    rfl
  have hfy := fixF1 L 43 (by omega)
  constructor
  · rintro ⟨h1, h2⟩
    have hyy : yesN (numF L 43 1 == 1) = numF L 43 1 := by
      have : numF L 43 1 = 0 ∨ numF L 43 1 = 1 := by omega
      rcases this with e | e <;> rw [e] <;> rfl
    rw [hput, hyy, hfy]
    have hd : L.drop (endM L) = [] := by rw [h1]; exact List.drop_length
    rw [hd, List.append_nil] at hL
    exact hL.symm
  · intro he
    rw [hput] at he
    have he2 := he.trans hL
    simp only [List.append_cancel_left_eq] at he2
    obtain ⟨h1, h2⟩ := List.append_inj he2 (by rw [fixL_length _ 1 (by decide), seg_length L 43 1 (by omega)])
    simp only [List.append_cancel_left_eq] at h2
    have h3 : L.drop (endM L) = [] := by
      have := congrArg List.length h2
      rw [List.length_append] at this
      exact List.eq_nil_of_length_eq_zero (by omega)
    have h4 : L.length ≤ endM L := List.drop_eq_nil_iff.1 h3
    have h5 : endM L = L.length := by unfold endM snapO at h4 ⊢; omega
    refine ⟨h5, ?_⟩
    rw [← hfy] at h1
    by_cases h6 : 1 < numF L 43 1
    · exfalso
      have hq : (numF L 43 1 == 1) = false := by simp; omega
      rw [hq] at h1
      obtain ⟨q, hq2⟩ : ∃ q : Nat, numF L 43 1 = (q : Int) := ⟨(numF L 43 1).toNat, by omega⟩
      rw [hq2, fixL_one q (by omega)] at h1
      have h0 : fixL (yesN false) 1 = [0] := by decide
      rw [h0] at h1
      have := congrArg (fun l => (l.headD 0).toNat) h1
      simp at this
      omega
    · omega
end Go.Proofs.YtnnpjjehecbljaaGreatDoor

namespace Go.Proofs.YtnnpjjehecbljaaGreatDoor
open Go.RowKit

theorem nodeW_ok (x : Int) : 1 ≤ nodeW x ∧ nodeW x ≤ 7 := by
  unfold nodeW
  have h0 : 0 ≤ IntKind.u64.wrap x ∧ IntKind.u64.wrap x < 18446744073709551616 := by rw [IntKind.wrap_u64]; omega
  have h1 := Int.tmod_eq_emod_of_nonneg (b := 7) h0.1
  have h2 := Int.emod_nonneg (IntKind.u64.wrap x) (b := 7) (by decide)
  have h3 := Int.emod_lt_of_pos (IntKind.u64.wrap x) (b := 7) (by decide)
  rw [IntWalk.wrap64_in ((IntKind.u64.wrap x).tmod 7) (by omega), IntWalk.wrap64_in _ (by omega)]
  omega
theorem levelW_ok (x : Int) : levelW x = 1 ∨ levelW x = 2 := by
  unfold levelW
  have h0 : 0 ≤ IntKind.u64.wrap x ∧ IntKind.u64.wrap x < 18446744073709551616 := by rw [IntKind.wrap_u64]; omega
  have h1 := Int.tmod_eq_emod_of_nonneg (b := 2) h0.1
  have h2 := Int.emod_nonneg (IntKind.u64.wrap x) (b := 2) (by decide)
  have h3 := Int.emod_lt_of_pos (IntKind.u64.wrap x) (b := 2) (by decide)
  rw [IntWalk.wrap64_in ((IntKind.u64.wrap x).tmod 2) (by omega), IntWalk.wrap64_in _ (by omega)]
  omega
theorem cutTo_le (n : Nat) (s : ByteArray) : (cutTo n s).size ≤ n := by
  unfold cutTo
  rw [ByteArray.size_extract]
  omega
theorem nodeW_B (x : Int) : nodeB (nodeW x) = true := by
  have := nodeW_ok x
  unfold nodeB
  simp [this]
theorem levelW_B (x : Int) : (levelW x == 1 || levelW x == 2) = true := by
  rcases levelW_ok x with h | h <;> rw [h] <;> rfl
theorem mod_small (x k : Int) (h : 0 < k) (h2 : k < 1000) : smallB (x % k) = true := by
  have h0 := Int.emod_nonneg x (b := k) (by omega)
  have h1 := Int.emod_lt_of_pos x h
  unfold smallB
  have : x % k / 4294967296 = 0 := by omega
  rw [this]; rfl
theorem mod_pos1 (x k : Int) (h : 0 < k) : decide (0 < x % k + 1) = true := by
  have h0 := Int.emod_nonneg x (b := k) (by omega)
  exact decide_eq_true (by omega)
theorem noB (b : Bool) : (!(!b)) = b := by cases b <;> rfl

theorem made_ok0 (e : Ent) (hk : e.kind % 12 = 0) : (madeOf e).ok = true := by
  have hm : entMay (e.kind % 12) = (⟨#[]⟩, true) := by rw [hk]; rfl
  have hm1 : (entMay (e.kind % 12)).1 = ⟨#[]⟩ := by rw [hm]
  unfold Ent.ok Ent.flds madeOf
  simp only [hm]
  unfold has' fitB
  simp only [List.any_cons, List.any_nil, Fld.bad, show hasI ⟨#[]⟩ 99 = false from by decide, show hasI ⟨#[]⟩ 98 = false from by decide, show hasI ⟨#[]⟩ 109 = false from by decide, show hasI ⟨#[]⟩ 110 = false from by decide, show hasI ⟨#[]⟩ 108 = false from by decide, show hasI ⟨#[]⟩ 100 = false from by decide, show hasI ⟨#[]⟩ 111 = false from by decide, show hasB ⟨#[]⟩ 99 = false from by decide, show hasB ⟨#[]⟩ 98 = false from by decide, show hasB ⟨#[]⟩ 109 = false from by decide, show hasB ⟨#[]⟩ 110 = false from by decide, show hasB ⟨#[]⟩ 108 = false from by decide, show hasB ⟨#[]⟩ 100 = false from by decide, show hasB ⟨#[]⟩ 111 = false from by decide]
  have h1 := mod_pos1 e.term 1000 (by decide)
  have h2 := mod_pos1 e.index 1000 (by decide)
  have h3 := mod_pos1 e.client 5 (by decide)
  have h4 := mod_small e.block 9 (by decide) (by decide)
  have h5 := mod_small e.many 9 (by decide) (by decide)
  have h6 := nodeW_B e.node
  have h7 := levelW_B e.level
  have h8 : decide (((cutTo 64 e.data).size : Int) ≤ 64) = true := decide_eq_true (by have := cutTo_le 64 e.data; omega)
  have h9 : decide (((cutTo 64 e.old).size : Int) ≤ 64) = true := decide_eq_true (by have := cutTo_le 64 e.old; omega)
  simp [h1, h2, h3, h4, h5, h6, h7, h8, h9]
  try exact (by decide)

theorem made_ok1 (e : Ent) (hk : e.kind % 12 = 1) : (madeOf e).ok = true := by
  have hm : entMay (e.kind % 12) = (⟨#[99, 98, 100]⟩, true) := by rw [hk]; rfl
  have hm1 : (entMay (e.kind % 12)).1 = ⟨#[99, 98, 100]⟩ := by rw [hm]
  unfold Ent.ok Ent.flds madeOf
  simp only [hm]
  unfold has' fitB
  simp only [List.any_cons, List.any_nil, Fld.bad, show hasI ⟨#[99, 98, 100]⟩ 99 = true from by decide, show hasI ⟨#[99, 98, 100]⟩ 98 = true from by decide, show hasI ⟨#[99, 98, 100]⟩ 109 = false from by decide, show hasI ⟨#[99, 98, 100]⟩ 110 = false from by decide, show hasI ⟨#[99, 98, 100]⟩ 108 = false from by decide, show hasI ⟨#[99, 98, 100]⟩ 100 = true from by decide, show hasI ⟨#[99, 98, 100]⟩ 111 = false from by decide, show hasB ⟨#[99, 98, 100]⟩ 99 = true from by decide, show hasB ⟨#[99, 98, 100]⟩ 98 = true from by decide, show hasB ⟨#[99, 98, 100]⟩ 109 = false from by decide, show hasB ⟨#[99, 98, 100]⟩ 110 = false from by decide, show hasB ⟨#[99, 98, 100]⟩ 108 = false from by decide, show hasB ⟨#[99, 98, 100]⟩ 100 = true from by decide, show hasB ⟨#[99, 98, 100]⟩ 111 = false from by decide]
  have h1 := mod_pos1 e.term 1000 (by decide)
  have h2 := mod_pos1 e.index 1000 (by decide)
  have h3 := mod_pos1 e.client 5 (by decide)
  have h4 := mod_small e.block 9 (by decide) (by decide)
  have h5 := mod_small e.many 9 (by decide) (by decide)
  have h6 := nodeW_B e.node
  have h7 := levelW_B e.level
  have h8 : decide (((cutTo 64 e.data).size : Int) ≤ 64) = true := decide_eq_true (by have := cutTo_le 64 e.data; omega)
  have h9 : decide (((cutTo 64 e.old).size : Int) ≤ 64) = true := decide_eq_true (by have := cutTo_le 64 e.old; omega)
  simp [h1, h2, h3, h4, h5, h6, h7, h8, h9]
  try exact (by decide)

theorem made_ok2 (e : Ent) (hk : e.kind % 12 = 2) : (madeOf e).ok = true := by
  have hm : entMay (e.kind % 12) = (⟨#[99, 98, 109]⟩, true) := by rw [hk]; rfl
  have hm1 : (entMay (e.kind % 12)).1 = ⟨#[99, 98, 109]⟩ := by rw [hm]
  unfold Ent.ok Ent.flds madeOf
  simp only [hm]
  unfold has' fitB
  simp only [List.any_cons, List.any_nil, Fld.bad, show hasI ⟨#[99, 98, 109]⟩ 99 = true from by decide, show hasI ⟨#[99, 98, 109]⟩ 98 = true from by decide, show hasI ⟨#[99, 98, 109]⟩ 109 = true from by decide, show hasI ⟨#[99, 98, 109]⟩ 110 = false from by decide, show hasI ⟨#[99, 98, 109]⟩ 108 = false from by decide, show hasI ⟨#[99, 98, 109]⟩ 100 = false from by decide, show hasI ⟨#[99, 98, 109]⟩ 111 = false from by decide, show hasB ⟨#[99, 98, 109]⟩ 99 = true from by decide, show hasB ⟨#[99, 98, 109]⟩ 98 = true from by decide, show hasB ⟨#[99, 98, 109]⟩ 109 = true from by decide, show hasB ⟨#[99, 98, 109]⟩ 110 = false from by decide, show hasB ⟨#[99, 98, 109]⟩ 108 = false from by decide, show hasB ⟨#[99, 98, 109]⟩ 100 = false from by decide, show hasB ⟨#[99, 98, 109]⟩ 111 = false from by decide]
  have h1 := mod_pos1 e.term 1000 (by decide)
  have h2 := mod_pos1 e.index 1000 (by decide)
  have h3 := mod_pos1 e.client 5 (by decide)
  have h4 := mod_small e.block 9 (by decide) (by decide)
  have h5 := mod_small e.many 9 (by decide) (by decide)
  have h6 := nodeW_B e.node
  have h7 := levelW_B e.level
  have h8 : decide (((cutTo 64 e.data).size : Int) ≤ 64) = true := decide_eq_true (by have := cutTo_le 64 e.data; omega)
  have h9 : decide (((cutTo 64 e.old).size : Int) ≤ 64) = true := decide_eq_true (by have := cutTo_le 64 e.old; omega)
  simp [h1, h2, h3, h4, h5, h6, h7, h8, h9]
  try exact (by decide)

theorem made_ok3 (e : Ent) (hk : e.kind % 12 = 3) : (madeOf e).ok = true := by
  have hm : entMay (e.kind % 12) = (⟨#[99, 109]⟩, true) := by rw [hk]; rfl
  have hm1 : (entMay (e.kind % 12)).1 = ⟨#[99, 109]⟩ := by rw [hm]
  unfold Ent.ok Ent.flds madeOf
  simp only [hm]
  unfold has' fitB
  simp only [List.any_cons, List.any_nil, Fld.bad, show hasI ⟨#[99, 109]⟩ 99 = true from by decide, show hasI ⟨#[99, 109]⟩ 98 = false from by decide, show hasI ⟨#[99, 109]⟩ 109 = true from by decide, show hasI ⟨#[99, 109]⟩ 110 = false from by decide, show hasI ⟨#[99, 109]⟩ 108 = false from by decide, show hasI ⟨#[99, 109]⟩ 100 = false from by decide, show hasI ⟨#[99, 109]⟩ 111 = false from by decide, show hasB ⟨#[99, 109]⟩ 99 = true from by decide, show hasB ⟨#[99, 109]⟩ 98 = false from by decide, show hasB ⟨#[99, 109]⟩ 109 = true from by decide, show hasB ⟨#[99, 109]⟩ 110 = false from by decide, show hasB ⟨#[99, 109]⟩ 108 = false from by decide, show hasB ⟨#[99, 109]⟩ 100 = false from by decide, show hasB ⟨#[99, 109]⟩ 111 = false from by decide]
  have h1 := mod_pos1 e.term 1000 (by decide)
  have h2 := mod_pos1 e.index 1000 (by decide)
  have h3 := mod_pos1 e.client 5 (by decide)
  have h4 := mod_small e.block 9 (by decide) (by decide)
  have h5 := mod_small e.many 9 (by decide) (by decide)
  have h6 := nodeW_B e.node
  have h7 := levelW_B e.level
  have h8 : decide (((cutTo 64 e.data).size : Int) ≤ 64) = true := decide_eq_true (by have := cutTo_le 64 e.data; omega)
  have h9 : decide (((cutTo 64 e.old).size : Int) ≤ 64) = true := decide_eq_true (by have := cutTo_le 64 e.old; omega)
  simp [h1, h2, h3, h4, h5, h6, h7, h8, h9]
  try exact (by decide)

theorem made_ok4 (e : Ent) (hk : e.kind % 12 = 4) : (madeOf e).ok = true := by
  have hm : entMay (e.kind % 12) = (⟨#[99]⟩, true) := by rw [hk]; rfl
  have hm1 : (entMay (e.kind % 12)).1 = ⟨#[99]⟩ := by rw [hm]
  unfold Ent.ok Ent.flds madeOf
  simp only [hm]
  unfold has' fitB
  simp only [List.any_cons, List.any_nil, Fld.bad, show hasI ⟨#[99]⟩ 99 = true from by decide, show hasI ⟨#[99]⟩ 98 = false from by decide, show hasI ⟨#[99]⟩ 109 = false from by decide, show hasI ⟨#[99]⟩ 110 = false from by decide, show hasI ⟨#[99]⟩ 108 = false from by decide, show hasI ⟨#[99]⟩ 100 = false from by decide, show hasI ⟨#[99]⟩ 111 = false from by decide, show hasB ⟨#[99]⟩ 99 = true from by decide, show hasB ⟨#[99]⟩ 98 = false from by decide, show hasB ⟨#[99]⟩ 109 = false from by decide, show hasB ⟨#[99]⟩ 110 = false from by decide, show hasB ⟨#[99]⟩ 108 = false from by decide, show hasB ⟨#[99]⟩ 100 = false from by decide, show hasB ⟨#[99]⟩ 111 = false from by decide]
  have h1 := mod_pos1 e.term 1000 (by decide)
  have h2 := mod_pos1 e.index 1000 (by decide)
  have h3 := mod_pos1 e.client 5 (by decide)
  have h4 := mod_small e.block 9 (by decide) (by decide)
  have h5 := mod_small e.many 9 (by decide) (by decide)
  have h6 := nodeW_B e.node
  have h7 := levelW_B e.level
  have h8 : decide (((cutTo 64 e.data).size : Int) ≤ 64) = true := decide_eq_true (by have := cutTo_le 64 e.data; omega)
  have h9 : decide (((cutTo 64 e.old).size : Int) ≤ 64) = true := decide_eq_true (by have := cutTo_le 64 e.old; omega)
  simp [h1, h2, h3, h4, h5, h6, h7, h8, h9]
  try exact (by decide)

theorem made_ok5 (e : Ent) (hk : e.kind % 12 = 5) : (madeOf e).ok = true := by
  have hm : entMay (e.kind % 12) = (⟨#[110]⟩, true) := by rw [hk]; rfl
  have hm1 : (entMay (e.kind % 12)).1 = ⟨#[110]⟩ := by rw [hm]
  unfold Ent.ok Ent.flds madeOf
  simp only [hm]
  unfold has' fitB
  simp only [List.any_cons, List.any_nil, Fld.bad, show hasI ⟨#[110]⟩ 99 = false from by decide, show hasI ⟨#[110]⟩ 98 = false from by decide, show hasI ⟨#[110]⟩ 109 = false from by decide, show hasI ⟨#[110]⟩ 110 = true from by decide, show hasI ⟨#[110]⟩ 108 = false from by decide, show hasI ⟨#[110]⟩ 100 = false from by decide, show hasI ⟨#[110]⟩ 111 = false from by decide, show hasB ⟨#[110]⟩ 99 = false from by decide, show hasB ⟨#[110]⟩ 98 = false from by decide, show hasB ⟨#[110]⟩ 109 = false from by decide, show hasB ⟨#[110]⟩ 110 = true from by decide, show hasB ⟨#[110]⟩ 108 = false from by decide, show hasB ⟨#[110]⟩ 100 = false from by decide, show hasB ⟨#[110]⟩ 111 = false from by decide]
  have h1 := mod_pos1 e.term 1000 (by decide)
  have h2 := mod_pos1 e.index 1000 (by decide)
  have h3 := mod_pos1 e.client 5 (by decide)
  have h4 := mod_small e.block 9 (by decide) (by decide)
  have h5 := mod_small e.many 9 (by decide) (by decide)
  have h6 := nodeW_B e.node
  have h7 := levelW_B e.level
  have h8 : decide (((cutTo 64 e.data).size : Int) ≤ 64) = true := decide_eq_true (by have := cutTo_le 64 e.data; omega)
  have h9 : decide (((cutTo 64 e.old).size : Int) ≤ 64) = true := decide_eq_true (by have := cutTo_le 64 e.old; omega)
  simp [h1, h2, h3, h4, h5, h6, h7, h8, h9]
  try exact (by decide)

theorem made_ok6 (e : Ent) (hk : e.kind % 12 = 6) : (madeOf e).ok = true := by
  have hm : entMay (e.kind % 12) = (⟨#[110]⟩, true) := by rw [hk]; rfl
  have hm1 : (entMay (e.kind % 12)).1 = ⟨#[110]⟩ := by rw [hm]
  unfold Ent.ok Ent.flds madeOf
  simp only [hm]
  unfold has' fitB
  simp only [List.any_cons, List.any_nil, Fld.bad, show hasI ⟨#[110]⟩ 99 = false from by decide, show hasI ⟨#[110]⟩ 98 = false from by decide, show hasI ⟨#[110]⟩ 109 = false from by decide, show hasI ⟨#[110]⟩ 110 = true from by decide, show hasI ⟨#[110]⟩ 108 = false from by decide, show hasI ⟨#[110]⟩ 100 = false from by decide, show hasI ⟨#[110]⟩ 111 = false from by decide, show hasB ⟨#[110]⟩ 99 = false from by decide, show hasB ⟨#[110]⟩ 98 = false from by decide, show hasB ⟨#[110]⟩ 109 = false from by decide, show hasB ⟨#[110]⟩ 110 = true from by decide, show hasB ⟨#[110]⟩ 108 = false from by decide, show hasB ⟨#[110]⟩ 100 = false from by decide, show hasB ⟨#[110]⟩ 111 = false from by decide]
  have h1 := mod_pos1 e.term 1000 (by decide)
  have h2 := mod_pos1 e.index 1000 (by decide)
  have h3 := mod_pos1 e.client 5 (by decide)
  have h4 := mod_small e.block 9 (by decide) (by decide)
  have h5 := mod_small e.many 9 (by decide) (by decide)
  have h6 := nodeW_B e.node
  have h7 := levelW_B e.level
  have h8 : decide (((cutTo 64 e.data).size : Int) ≤ 64) = true := decide_eq_true (by have := cutTo_le 64 e.data; omega)
  have h9 : decide (((cutTo 64 e.old).size : Int) ≤ 64) = true := decide_eq_true (by have := cutTo_le 64 e.old; omega)
  simp [h1, h2, h3, h4, h5, h6, h7, h8, h9]
  try exact (by decide)

theorem made_ok7 (e : Ent) (hk : e.kind % 12 = 7) : (madeOf e).ok = true := by
  have hm : entMay (e.kind % 12) = (⟨#[110, 108]⟩, true) := by rw [hk]; rfl
  have hm1 : (entMay (e.kind % 12)).1 = ⟨#[110, 108]⟩ := by rw [hm]
  unfold Ent.ok Ent.flds madeOf
  simp only [hm]
  unfold has' fitB
  simp only [List.any_cons, List.any_nil, Fld.bad, show hasI ⟨#[110, 108]⟩ 99 = false from by decide, show hasI ⟨#[110, 108]⟩ 98 = false from by decide, show hasI ⟨#[110, 108]⟩ 109 = false from by decide, show hasI ⟨#[110, 108]⟩ 110 = true from by decide, show hasI ⟨#[110, 108]⟩ 108 = true from by decide, show hasI ⟨#[110, 108]⟩ 100 = false from by decide, show hasI ⟨#[110, 108]⟩ 111 = false from by decide, show hasB ⟨#[110, 108]⟩ 99 = false from by decide, show hasB ⟨#[110, 108]⟩ 98 = false from by decide, show hasB ⟨#[110, 108]⟩ 109 = false from by decide, show hasB ⟨#[110, 108]⟩ 110 = true from by decide, show hasB ⟨#[110, 108]⟩ 108 = true from by decide, show hasB ⟨#[110, 108]⟩ 100 = false from by decide, show hasB ⟨#[110, 108]⟩ 111 = false from by decide]
  have h1 := mod_pos1 e.term 1000 (by decide)
  have h2 := mod_pos1 e.index 1000 (by decide)
  have h3 := mod_pos1 e.client 5 (by decide)
  have h4 := mod_small e.block 9 (by decide) (by decide)
  have h5 := mod_small e.many 9 (by decide) (by decide)
  have h6 := nodeW_B e.node
  have h7 := levelW_B e.level
  have h8 : decide (((cutTo 64 e.data).size : Int) ≤ 64) = true := decide_eq_true (by have := cutTo_le 64 e.data; omega)
  have h9 : decide (((cutTo 64 e.old).size : Int) ≤ 64) = true := decide_eq_true (by have := cutTo_le 64 e.old; omega)
  simp [h1, h2, h3, h4, h5, h6, h7, h8, h9]
  try exact (by decide)

theorem made_ok8 (e : Ent) (hk : e.kind % 12 = 8) : (madeOf e).ok = true := by
  have hm : entMay (e.kind % 12) = (⟨#[]⟩, true) := by rw [hk]; rfl
  have hm1 : (entMay (e.kind % 12)).1 = ⟨#[]⟩ := by rw [hm]
  unfold Ent.ok Ent.flds madeOf
  simp only [hm]
  unfold has' fitB
  simp only [List.any_cons, List.any_nil, Fld.bad, show hasI ⟨#[]⟩ 99 = false from by decide, show hasI ⟨#[]⟩ 98 = false from by decide, show hasI ⟨#[]⟩ 109 = false from by decide, show hasI ⟨#[]⟩ 110 = false from by decide, show hasI ⟨#[]⟩ 108 = false from by decide, show hasI ⟨#[]⟩ 100 = false from by decide, show hasI ⟨#[]⟩ 111 = false from by decide, show hasB ⟨#[]⟩ 99 = false from by decide, show hasB ⟨#[]⟩ 98 = false from by decide, show hasB ⟨#[]⟩ 109 = false from by decide, show hasB ⟨#[]⟩ 110 = false from by decide, show hasB ⟨#[]⟩ 108 = false from by decide, show hasB ⟨#[]⟩ 100 = false from by decide, show hasB ⟨#[]⟩ 111 = false from by decide]
  have h1 := mod_pos1 e.term 1000 (by decide)
  have h2 := mod_pos1 e.index 1000 (by decide)
  have h3 := mod_pos1 e.client 5 (by decide)
  have h4 := mod_small e.block 9 (by decide) (by decide)
  have h5 := mod_small e.many 9 (by decide) (by decide)
  have h6 := nodeW_B e.node
  have h7 := levelW_B e.level
  have h8 : decide (((cutTo 64 e.data).size : Int) ≤ 64) = true := decide_eq_true (by have := cutTo_le 64 e.data; omega)
  have h9 : decide (((cutTo 64 e.old).size : Int) ≤ 64) = true := decide_eq_true (by have := cutTo_le 64 e.old; omega)
  simp [h1, h2, h3, h4, h5, h6, h7, h8, h9]
  try exact (by decide)

theorem made_ok9 (e : Ent) (hk : e.kind % 12 = 9) : (madeOf e).ok = true := by
  have hm : entMay (e.kind % 12) = (⟨#[]⟩, true) := by rw [hk]; rfl
  have hm1 : (entMay (e.kind % 12)).1 = ⟨#[]⟩ := by rw [hm]
  unfold Ent.ok Ent.flds madeOf
  simp only [hm]
  unfold has' fitB
  simp only [List.any_cons, List.any_nil, Fld.bad, show hasI ⟨#[]⟩ 99 = false from by decide, show hasI ⟨#[]⟩ 98 = false from by decide, show hasI ⟨#[]⟩ 109 = false from by decide, show hasI ⟨#[]⟩ 110 = false from by decide, show hasI ⟨#[]⟩ 108 = false from by decide, show hasI ⟨#[]⟩ 100 = false from by decide, show hasI ⟨#[]⟩ 111 = false from by decide, show hasB ⟨#[]⟩ 99 = false from by decide, show hasB ⟨#[]⟩ 98 = false from by decide, show hasB ⟨#[]⟩ 109 = false from by decide, show hasB ⟨#[]⟩ 110 = false from by decide, show hasB ⟨#[]⟩ 108 = false from by decide, show hasB ⟨#[]⟩ 100 = false from by decide, show hasB ⟨#[]⟩ 111 = false from by decide]
  have h1 := mod_pos1 e.term 1000 (by decide)
  have h2 := mod_pos1 e.index 1000 (by decide)
  have h3 := mod_pos1 e.client 5 (by decide)
  have h4 := mod_small e.block 9 (by decide) (by decide)
  have h5 := mod_small e.many 9 (by decide) (by decide)
  have h6 := nodeW_B e.node
  have h7 := levelW_B e.level
  have h8 : decide (((cutTo 64 e.data).size : Int) ≤ 64) = true := decide_eq_true (by have := cutTo_le 64 e.data; omega)
  have h9 : decide (((cutTo 64 e.old).size : Int) ≤ 64) = true := decide_eq_true (by have := cutTo_le 64 e.old; omega)
  simp [h1, h2, h3, h4, h5, h6, h7, h8, h9]
  try exact (by decide)

theorem made_ok10 (e : Ent) (hk : e.kind % 12 = 10) : (madeOf e).ok = true := by
  have hm : entMay (e.kind % 12) = (⟨#[]⟩, true) := by rw [hk]; rfl
  have hm1 : (entMay (e.kind % 12)).1 = ⟨#[]⟩ := by rw [hm]
  unfold Ent.ok Ent.flds madeOf
  simp only [hm]
  unfold has' fitB
  simp only [List.any_cons, List.any_nil, Fld.bad, show hasI ⟨#[]⟩ 99 = false from by decide, show hasI ⟨#[]⟩ 98 = false from by decide, show hasI ⟨#[]⟩ 109 = false from by decide, show hasI ⟨#[]⟩ 110 = false from by decide, show hasI ⟨#[]⟩ 108 = false from by decide, show hasI ⟨#[]⟩ 100 = false from by decide, show hasI ⟨#[]⟩ 111 = false from by decide, show hasB ⟨#[]⟩ 99 = false from by decide, show hasB ⟨#[]⟩ 98 = false from by decide, show hasB ⟨#[]⟩ 109 = false from by decide, show hasB ⟨#[]⟩ 110 = false from by decide, show hasB ⟨#[]⟩ 108 = false from by decide, show hasB ⟨#[]⟩ 100 = false from by decide, show hasB ⟨#[]⟩ 111 = false from by decide]
  have h1 := mod_pos1 e.term 1000 (by decide)
  have h2 := mod_pos1 e.index 1000 (by decide)
  have h3 := mod_pos1 e.client 5 (by decide)
  have h4 := mod_small e.block 9 (by decide) (by decide)
  have h5 := mod_small e.many 9 (by decide) (by decide)
  have h6 := nodeW_B e.node
  have h7 := levelW_B e.level
  have h8 : decide (((cutTo 64 e.data).size : Int) ≤ 64) = true := decide_eq_true (by have := cutTo_le 64 e.data; omega)
  have h9 : decide (((cutTo 64 e.old).size : Int) ≤ 64) = true := decide_eq_true (by have := cutTo_le 64 e.old; omega)
  simp [h1, h2, h3, h4, h5, h6, h7, h8, h9]
  try exact (by decide)

theorem made_ok11 (e : Ent) (hk : e.kind % 12 = 11) : (madeOf e).ok = true := by
  have hm : entMay (e.kind % 12) = (⟨#[99, 98, 100, 111]⟩, true) := by rw [hk]; rfl
  have hm1 : (entMay (e.kind % 12)).1 = ⟨#[99, 98, 100, 111]⟩ := by rw [hm]
  unfold Ent.ok Ent.flds madeOf
  simp only [hm]
  unfold has' fitB
  simp only [List.any_cons, List.any_nil, Fld.bad, show hasI ⟨#[99, 98, 100, 111]⟩ 99 = true from by decide, show hasI ⟨#[99, 98, 100, 111]⟩ 98 = true from by decide, show hasI ⟨#[99, 98, 100, 111]⟩ 109 = false from by decide, show hasI ⟨#[99, 98, 100, 111]⟩ 110 = false from by decide, show hasI ⟨#[99, 98, 100, 111]⟩ 108 = false from by decide, show hasI ⟨#[99, 98, 100, 111]⟩ 100 = true from by decide, show hasI ⟨#[99, 98, 100, 111]⟩ 111 = true from by decide, show hasB ⟨#[99, 98, 100, 111]⟩ 99 = true from by decide, show hasB ⟨#[99, 98, 100, 111]⟩ 98 = true from by decide, show hasB ⟨#[99, 98, 100, 111]⟩ 109 = false from by decide, show hasB ⟨#[99, 98, 100, 111]⟩ 110 = false from by decide, show hasB ⟨#[99, 98, 100, 111]⟩ 108 = false from by decide, show hasB ⟨#[99, 98, 100, 111]⟩ 100 = true from by decide, show hasB ⟨#[99, 98, 100, 111]⟩ 111 = true from by decide]
  have h1 := mod_pos1 e.term 1000 (by decide)
  have h2 := mod_pos1 e.index 1000 (by decide)
  have h3 := mod_pos1 e.client 5 (by decide)
  have h4 := mod_small e.block 9 (by decide) (by decide)
  have h5 := mod_small e.many 9 (by decide) (by decide)
  have h6 := nodeW_B e.node
  have h7 := levelW_B e.level
  have h8 : decide (((cutTo 64 e.data).size : Int) ≤ 64) = true := decide_eq_true (by have := cutTo_le 64 e.data; omega)
  have h9 : decide (((cutTo 64 e.old).size : Int) ≤ 64) = true := decide_eq_true (by have := cutTo_le 64 e.old; omega)
  simp [h1, h2, h3, h4, h5, h6, h7, h8, h9]
  try exact (by decide)

theorem madeOf_ok (e : Ent) : (madeOf e).ok = true := by
  have : e.kind % 12 = 0 ∨ e.kind % 12 = 1 ∨ e.kind % 12 = 2 ∨ e.kind % 12 = 3 ∨ e.kind % 12 = 4 ∨ e.kind % 12 = 5 ∨ e.kind % 12 = 6 ∨ e.kind % 12 = 7 ∨ e.kind % 12 = 8 ∨ e.kind % 12 = 9 ∨ e.kind % 12 = 10 ∨ e.kind % 12 = 11 := by omega
  rcases this with h | h | h | h | h | h | h | h | h | h | h | h
  · exact made_ok0 e h
  · exact made_ok1 e h
  · exact made_ok2 e h
  · exact made_ok3 e h
  · exact made_ok4 e h
  · exact made_ok5 e h
  · exact made_ok6 e h
  · exact made_ok7 e h
  · exact made_ok8 e h
  · exact made_ok9 e h
  · exact made_ok10 e h
  · exact made_ok11 e h

theorem note_ok1 (m : Msg) (l : List Ent) (hk : m.kind % 10 + 1 = 1) (hl : l.length ≤ 64) (hall : l.any (fun e => !e.ok) = false) : (noteOf m l).ok = true := by
  have hm : msgMay (m.kind % 10 + 1) = (⟨#[105, 112]⟩, true) := by rw [hk]; rfl
  unfold Msg.ok Msg.flds noteOf
  simp only [hm]
  unfold has' fitB
  simp only [List.any_cons, List.any_nil, Fld.bad, show hasI ⟨#[105, 112]⟩ 105 = true from by decide, show hasI ⟨#[105, 112]⟩ 112 = true from by decide, show hasI ⟨#[105, 112]⟩ 116 = false from by decide, show hasI ⟨#[105, 112]⟩ 107 = false from by decide, show hasI ⟨#[105, 112]⟩ 121 = false from by decide, show hasI ⟨#[105, 112]⟩ 101 = false from by decide, show hasI ⟨#[105, 112]⟩ 115 = false from by decide, show hasB ⟨#[105, 112]⟩ 105 = true from by decide, show hasB ⟨#[105, 112]⟩ 112 = true from by decide, show hasB ⟨#[105, 112]⟩ 116 = false from by decide, show hasB ⟨#[105, 112]⟩ 107 = false from by decide, show hasB ⟨#[105, 112]⟩ 121 = false from by decide, show hasB ⟨#[105, 112]⟩ 101 = false from by decide, show hasB ⟨#[105, 112]⟩ 115 = false from by decide]
  have h1 := nodeW_B m.sent
  have h2 := nodeW_B m.goal
  have h3 : decide (((cutTo 200 m.snap).size : Int) ≤ 16384) = true := decide_eq_true (by have := cutTo_le 200 m.snap; omega)
  have h4 : decide (l.length ≤ 64) = true := decide_eq_true hl
  simp [h1, h2, h3, h4, hall]
  try exact (by decide)

theorem note_ok2 (m : Msg) (l : List Ent) (hk : m.kind % 10 + 1 = 2) (hl : l.length ≤ 64) (hall : l.any (fun e => !e.ok) = false) : (noteOf m l).ok = true := by
  have hm : msgMay (m.kind % 10 + 1) = (⟨#[121]⟩, true) := by rw [hk]; rfl
  unfold Msg.ok Msg.flds noteOf
  simp only [hm]
  unfold has' fitB
  simp only [List.any_cons, List.any_nil, Fld.bad, show hasI ⟨#[121]⟩ 105 = false from by decide, show hasI ⟨#[121]⟩ 112 = false from by decide, show hasI ⟨#[121]⟩ 116 = false from by decide, show hasI ⟨#[121]⟩ 107 = false from by decide, show hasI ⟨#[121]⟩ 121 = true from by decide, show hasI ⟨#[121]⟩ 101 = false from by decide, show hasI ⟨#[121]⟩ 115 = false from by decide, show hasB ⟨#[121]⟩ 105 = false from by decide, show hasB ⟨#[121]⟩ 112 = false from by decide, show hasB ⟨#[121]⟩ 116 = false from by decide, show hasB ⟨#[121]⟩ 107 = false from by decide, show hasB ⟨#[121]⟩ 121 = true from by decide, show hasB ⟨#[121]⟩ 101 = false from by decide, show hasB ⟨#[121]⟩ 115 = false from by decide]
  have h1 := nodeW_B m.sent
  have h2 := nodeW_B m.goal
  have h3 : decide (((cutTo 200 m.snap).size : Int) ≤ 16384) = true := decide_eq_true (by have := cutTo_le 200 m.snap; omega)
  have h4 : decide (l.length ≤ 64) = true := decide_eq_true hl
  simp [h1, h2, h3, h4, hall]
  try exact (by decide)

theorem note_ok3 (m : Msg) (l : List Ent) (hk : m.kind % 10 + 1 = 3) (hl : l.length ≤ 64) (hall : l.any (fun e => !e.ok) = false) : (noteOf m l).ok = true := by
  have hm : msgMay (m.kind % 10 + 1) = (⟨#[105, 112]⟩, true) := by rw [hk]; rfl
  unfold Msg.ok Msg.flds noteOf
  simp only [hm]
  unfold has' fitB
  simp only [List.any_cons, List.any_nil, Fld.bad, show hasI ⟨#[105, 112]⟩ 105 = true from by decide, show hasI ⟨#[105, 112]⟩ 112 = true from by decide, show hasI ⟨#[105, 112]⟩ 116 = false from by decide, show hasI ⟨#[105, 112]⟩ 107 = false from by decide, show hasI ⟨#[105, 112]⟩ 121 = false from by decide, show hasI ⟨#[105, 112]⟩ 101 = false from by decide, show hasI ⟨#[105, 112]⟩ 115 = false from by decide, show hasB ⟨#[105, 112]⟩ 105 = true from by decide, show hasB ⟨#[105, 112]⟩ 112 = true from by decide, show hasB ⟨#[105, 112]⟩ 116 = false from by decide, show hasB ⟨#[105, 112]⟩ 107 = false from by decide, show hasB ⟨#[105, 112]⟩ 121 = false from by decide, show hasB ⟨#[105, 112]⟩ 101 = false from by decide, show hasB ⟨#[105, 112]⟩ 115 = false from by decide]
  have h1 := nodeW_B m.sent
  have h2 := nodeW_B m.goal
  have h3 : decide (((cutTo 200 m.snap).size : Int) ≤ 16384) = true := decide_eq_true (by have := cutTo_le 200 m.snap; omega)
  have h4 : decide (l.length ≤ 64) = true := decide_eq_true hl
  simp [h1, h2, h3, h4, hall]
  try exact (by decide)

theorem note_ok4 (m : Msg) (l : List Ent) (hk : m.kind % 10 + 1 = 4) (hl : l.length ≤ 64) (hall : l.any (fun e => !e.ok) = false) : (noteOf m l).ok = true := by
  have hm : msgMay (m.kind % 10 + 1) = (⟨#[121]⟩, true) := by rw [hk]; rfl
  unfold Msg.ok Msg.flds noteOf
  simp only [hm]
  unfold has' fitB
  simp only [List.any_cons, List.any_nil, Fld.bad, show hasI ⟨#[121]⟩ 105 = false from by decide, show hasI ⟨#[121]⟩ 112 = false from by decide, show hasI ⟨#[121]⟩ 116 = false from by decide, show hasI ⟨#[121]⟩ 107 = false from by decide, show hasI ⟨#[121]⟩ 121 = true from by decide, show hasI ⟨#[121]⟩ 101 = false from by decide, show hasI ⟨#[121]⟩ 115 = false from by decide, show hasB ⟨#[121]⟩ 105 = false from by decide, show hasB ⟨#[121]⟩ 112 = false from by decide, show hasB ⟨#[121]⟩ 116 = false from by decide, show hasB ⟨#[121]⟩ 107 = false from by decide, show hasB ⟨#[121]⟩ 121 = true from by decide, show hasB ⟨#[121]⟩ 101 = false from by decide, show hasB ⟨#[121]⟩ 115 = false from by decide]
  have h1 := nodeW_B m.sent
  have h2 := nodeW_B m.goal
  have h3 : decide (((cutTo 200 m.snap).size : Int) ≤ 16384) = true := decide_eq_true (by have := cutTo_le 200 m.snap; omega)
  have h4 : decide (l.length ≤ 64) = true := decide_eq_true hl
  simp [h1, h2, h3, h4, hall]
  try exact (by decide)

theorem note_ok5 (m : Msg) (l : List Ent) (hk : m.kind % 10 + 1 = 5) (hl : l.length ≤ 64) (hall : l.any (fun e => !e.ok) = false) : (noteOf m l).ok = true := by
  have hm : msgMay (m.kind % 10 + 1) = (⟨#[105, 112, 116, 101, 107]⟩, true) := by rw [hk]; rfl
  unfold Msg.ok Msg.flds noteOf
  simp only [hm]
  unfold has' fitB
  simp only [List.any_cons, List.any_nil, Fld.bad, show hasI ⟨#[105, 112, 116, 101, 107]⟩ 105 = true from by decide, show hasI ⟨#[105, 112, 116, 101, 107]⟩ 112 = true from by decide, show hasI ⟨#[105, 112, 116, 101, 107]⟩ 116 = true from by decide, show hasI ⟨#[105, 112, 116, 101, 107]⟩ 107 = true from by decide, show hasI ⟨#[105, 112, 116, 101, 107]⟩ 121 = false from by decide, show hasI ⟨#[105, 112, 116, 101, 107]⟩ 101 = true from by decide, show hasI ⟨#[105, 112, 116, 101, 107]⟩ 115 = false from by decide, show hasB ⟨#[105, 112, 116, 101, 107]⟩ 105 = true from by decide, show hasB ⟨#[105, 112, 116, 101, 107]⟩ 112 = true from by decide, show hasB ⟨#[105, 112, 116, 101, 107]⟩ 116 = true from by decide, show hasB ⟨#[105, 112, 116, 101, 107]⟩ 107 = true from by decide, show hasB ⟨#[105, 112, 116, 101, 107]⟩ 121 = false from by decide, show hasB ⟨#[105, 112, 116, 101, 107]⟩ 101 = true from by decide, show hasB ⟨#[105, 112, 116, 101, 107]⟩ 115 = false from by decide]
  have h1 := nodeW_B m.sent
  have h2 := nodeW_B m.goal
  have h3 : decide (((cutTo 200 m.snap).size : Int) ≤ 16384) = true := decide_eq_true (by have := cutTo_le 200 m.snap; omega)
  have h4 : decide (l.length ≤ 64) = true := decide_eq_true hl
  simp [h1, h2, h3, h4, hall]
  try (simpa using hall)
  try exact (by decide)

theorem note_ok6 (m : Msg) (l : List Ent) (hk : m.kind % 10 + 1 = 6) (hl : l.length ≤ 64) (hall : l.any (fun e => !e.ok) = false) : (noteOf m l).ok = true := by
  have hm : msgMay (m.kind % 10 + 1) = (⟨#[105, 121, 107]⟩, true) := by rw [hk]; rfl
  unfold Msg.ok Msg.flds noteOf
  simp only [hm]
  unfold has' fitB
  simp only [List.any_cons, List.any_nil, Fld.bad, show hasI ⟨#[105, 121, 107]⟩ 105 = true from by decide, show hasI ⟨#[105, 121, 107]⟩ 112 = false from by decide, show hasI ⟨#[105, 121, 107]⟩ 116 = false from by decide, show hasI ⟨#[105, 121, 107]⟩ 107 = true from by decide, show hasI ⟨#[105, 121, 107]⟩ 121 = true from by decide, show hasI ⟨#[105, 121, 107]⟩ 101 = false from by decide, show hasI ⟨#[105, 121, 107]⟩ 115 = false from by decide, show hasB ⟨#[105, 121, 107]⟩ 105 = true from by decide, show hasB ⟨#[105, 121, 107]⟩ 112 = false from by decide, show hasB ⟨#[105, 121, 107]⟩ 116 = false from by decide, show hasB ⟨#[105, 121, 107]⟩ 107 = true from by decide, show hasB ⟨#[105, 121, 107]⟩ 121 = true from by decide, show hasB ⟨#[105, 121, 107]⟩ 101 = false from by decide, show hasB ⟨#[105, 121, 107]⟩ 115 = false from by decide]
  have h1 := nodeW_B m.sent
  have h2 := nodeW_B m.goal
  have h3 : decide (((cutTo 200 m.snap).size : Int) ≤ 16384) = true := decide_eq_true (by have := cutTo_le 200 m.snap; omega)
  have h4 : decide (l.length ≤ 64) = true := decide_eq_true hl
  simp [h1, h2, h3, h4, hall]
  try exact (by decide)

theorem note_ok7 (m : Msg) (l : List Ent) (hk : m.kind % 10 + 1 = 7) (hl : l.length ≤ 64) (hall : l.any (fun e => !e.ok) = false) : (noteOf m l).ok = true := by
  have hm : msgMay (m.kind % 10 + 1) = (⟨#[105, 112, 115]⟩, true) := by rw [hk]; rfl
  unfold Msg.ok Msg.flds noteOf
  simp only [hm]
  unfold has' fitB
  simp only [List.any_cons, List.any_nil, Fld.bad, show hasI ⟨#[105, 112, 115]⟩ 105 = true from by decide, show hasI ⟨#[105, 112, 115]⟩ 112 = true from by decide, show hasI ⟨#[105, 112, 115]⟩ 116 = false from by decide, show hasI ⟨#[105, 112, 115]⟩ 107 = false from by decide, show hasI ⟨#[105, 112, 115]⟩ 121 = false from by decide, show hasI ⟨#[105, 112, 115]⟩ 101 = false from by decide, show hasI ⟨#[105, 112, 115]⟩ 115 = true from by decide, show hasB ⟨#[105, 112, 115]⟩ 105 = true from by decide, show hasB ⟨#[105, 112, 115]⟩ 112 = true from by decide, show hasB ⟨#[105, 112, 115]⟩ 116 = false from by decide, show hasB ⟨#[105, 112, 115]⟩ 107 = false from by decide, show hasB ⟨#[105, 112, 115]⟩ 121 = false from by decide, show hasB ⟨#[105, 112, 115]⟩ 101 = false from by decide, show hasB ⟨#[105, 112, 115]⟩ 115 = true from by decide]
  have h1 := nodeW_B m.sent
  have h2 := nodeW_B m.goal
  have h3 : decide (((cutTo 200 m.snap).size : Int) ≤ 16384) = true := decide_eq_true (by have := cutTo_le 200 m.snap; omega)
  have h4 : decide (l.length ≤ 64) = true := decide_eq_true hl
  simp [h1, h2, h3, h4, hall]
  try exact (by decide)

theorem note_ok8 (m : Msg) (l : List Ent) (hk : m.kind % 10 + 1 = 8) (hl : l.length ≤ 64) (hall : l.any (fun e => !e.ok) = false) : (noteOf m l).ok = true := by
  have hm : msgMay (m.kind % 10 + 1) = (⟨#[105]⟩, true) := by rw [hk]; rfl
  unfold Msg.ok Msg.flds noteOf
  simp only [hm]
  unfold has' fitB
  simp only [List.any_cons, List.any_nil, Fld.bad, show hasI ⟨#[105]⟩ 105 = true from by decide, show hasI ⟨#[105]⟩ 112 = false from by decide, show hasI ⟨#[105]⟩ 116 = false from by decide, show hasI ⟨#[105]⟩ 107 = false from by decide, show hasI ⟨#[105]⟩ 121 = false from by decide, show hasI ⟨#[105]⟩ 101 = false from by decide, show hasI ⟨#[105]⟩ 115 = false from by decide, show hasB ⟨#[105]⟩ 105 = true from by decide, show hasB ⟨#[105]⟩ 112 = false from by decide, show hasB ⟨#[105]⟩ 116 = false from by decide, show hasB ⟨#[105]⟩ 107 = false from by decide, show hasB ⟨#[105]⟩ 121 = false from by decide, show hasB ⟨#[105]⟩ 101 = false from by decide, show hasB ⟨#[105]⟩ 115 = false from by decide]
  have h1 := nodeW_B m.sent
  have h2 := nodeW_B m.goal
  have h3 : decide (((cutTo 200 m.snap).size : Int) ≤ 16384) = true := decide_eq_true (by have := cutTo_le 200 m.snap; omega)
  have h4 : decide (l.length ≤ 64) = true := decide_eq_true hl
  simp [h1, h2, h3, h4, hall]
  try exact (by decide)

theorem note_ok9 (m : Msg) (l : List Ent) (hk : m.kind % 10 + 1 = 9) (hl : l.length ≤ 64) (hall : l.any (fun e => !e.ok) = false) : (noteOf m l).ok = true := by
  have hm : msgMay (m.kind % 10 + 1) = (⟨#[107]⟩, true) := by rw [hk]; rfl
  unfold Msg.ok Msg.flds noteOf
  simp only [hm]
  unfold has' fitB
  simp only [List.any_cons, List.any_nil, Fld.bad, show hasI ⟨#[107]⟩ 105 = false from by decide, show hasI ⟨#[107]⟩ 112 = false from by decide, show hasI ⟨#[107]⟩ 116 = false from by decide, show hasI ⟨#[107]⟩ 107 = true from by decide, show hasI ⟨#[107]⟩ 121 = false from by decide, show hasI ⟨#[107]⟩ 101 = false from by decide, show hasI ⟨#[107]⟩ 115 = false from by decide, show hasB ⟨#[107]⟩ 105 = false from by decide, show hasB ⟨#[107]⟩ 112 = false from by decide, show hasB ⟨#[107]⟩ 116 = false from by decide, show hasB ⟨#[107]⟩ 107 = true from by decide, show hasB ⟨#[107]⟩ 121 = false from by decide, show hasB ⟨#[107]⟩ 101 = false from by decide, show hasB ⟨#[107]⟩ 115 = false from by decide]
  have h1 := nodeW_B m.sent
  have h2 := nodeW_B m.goal
  have h3 : decide (((cutTo 200 m.snap).size : Int) ≤ 16384) = true := decide_eq_true (by have := cutTo_le 200 m.snap; omega)
  have h4 : decide (l.length ≤ 64) = true := decide_eq_true hl
  simp [h1, h2, h3, h4, hall]
  try exact (by decide)

theorem note_ok10 (m : Msg) (l : List Ent) (hk : m.kind % 10 + 1 = 10) (hl : l.length ≤ 64) (hall : l.any (fun e => !e.ok) = false) : (noteOf m l).ok = true := by
  have hm : msgMay (m.kind % 10 + 1) = (⟨#[107]⟩, true) := by rw [hk]; rfl
  unfold Msg.ok Msg.flds noteOf
  simp only [hm]
  unfold has' fitB
  simp only [List.any_cons, List.any_nil, Fld.bad, show hasI ⟨#[107]⟩ 105 = false from by decide, show hasI ⟨#[107]⟩ 112 = false from by decide, show hasI ⟨#[107]⟩ 116 = false from by decide, show hasI ⟨#[107]⟩ 107 = true from by decide, show hasI ⟨#[107]⟩ 121 = false from by decide, show hasI ⟨#[107]⟩ 101 = false from by decide, show hasI ⟨#[107]⟩ 115 = false from by decide, show hasB ⟨#[107]⟩ 105 = false from by decide, show hasB ⟨#[107]⟩ 112 = false from by decide, show hasB ⟨#[107]⟩ 116 = false from by decide, show hasB ⟨#[107]⟩ 107 = true from by decide, show hasB ⟨#[107]⟩ 121 = false from by decide, show hasB ⟨#[107]⟩ 101 = false from by decide, show hasB ⟨#[107]⟩ 115 = false from by decide]
  have h1 := nodeW_B m.sent
  have h2 := nodeW_B m.goal
  have h3 : decide (((cutTo 200 m.snap).size : Int) ≤ 16384) = true := decide_eq_true (by have := cutTo_le 200 m.snap; omega)
  have h4 : decide (l.length ≤ 64) = true := decide_eq_true hl
  simp [h1, h2, h3, h4, hall]
  try exact (by decide)

theorem noteOf_ok (m : Msg) (l : List Ent) (hl : l.length ≤ 64) (hall : l.any (fun e => !e.ok) = false) : (noteOf m l).ok = true := by
  have : m.kind % 10 + 1 = 1 ∨ m.kind % 10 + 1 = 2 ∨ m.kind % 10 + 1 = 3 ∨ m.kind % 10 + 1 = 4 ∨ m.kind % 10 + 1 = 5 ∨ m.kind % 10 + 1 = 6 ∨ m.kind % 10 + 1 = 7 ∨ m.kind % 10 + 1 = 8 ∨ m.kind % 10 + 1 = 9 ∨ m.kind % 10 + 1 = 10 := by omega
  rcases this with h | h | h | h | h | h | h | h | h | h
  · exact note_ok1 m l h hl hall
  · exact note_ok2 m l h hl hall
  · exact note_ok3 m l h hl hall
  · exact note_ok4 m l h hl hall
  · exact note_ok5 m l h hl hall
  · exact note_ok6 m l h hl hall
  · exact note_ok7 m l h hl hall
  · exact note_ok8 m l h hl hall
  · exact note_ok9 m l h hl hall
  · exact note_ok10 m l h hl hall
theorem noteM_ok (m : Msg) (l : List Ent) : (noteM m l).ok = true := by
  refine noteOf_ok m _ (by rw [List.length_take]; omega) ?_
  rw [List.any_eq_false]
  intro x hx
  obtain ⟨y, _, rfl⟩ := List.mem_map.1 (List.mem_of_mem_take hx)
  rw [madeOf_ok]
  decide
end Go.Proofs.YtnnpjjehecbljaaGreatDoor

namespace Go.Proofs.YtnnpjjehecbljaaGreatDoor
open Go.RowKit
set_option linter.unusedSimpArgs false

theorem ans_of {b : Nat} (hb : b < 256) (up fin : Bool) (e : Ent) (hok : e.ok = true) :
    (baseC (memL (someL b)) up fin).ok = true ∧ ∃ D, tellC (baseC (memL (someL b)) up fin) e = (D, wantOf (memL (someL b)) up fin e.kind e.node e.level) := by
  have h := some_new ⟨b, hb⟩
  simp only at h
  refine ⟨baseC_ok h up fin, _, Prod.ext rfl ?_⟩
  have := apply_wants h up fin e.kind e.node e.level (fun hk => ok_level e hok hk)
  unfold tellC
  rw [hok, this]
/-- The law's config, half way up. -/
def halfG (n k : Nat) : List Int := List.replicate k 2 ++ List.replicate (n - k) 1
theorem halfG_len {n k : Nat} (h : k ≤ n) : (halfG n k).length = n := by
  unfold halfG
  rw [List.length_append, List.length_replicate, List.length_replicate]
  omega
theorem halfG_set {n k : Nat} (h : k < n) : ((halfG n k).map (Value.int .i64)).set k (.int .i64 2) = (halfG n (k + 1)).map (Value.int .i64) := by
  have e : n - k = (n - (k + 1)) + 1 := by omega
  unfold halfG
  rw [e, List.replicate_succ, List.map_append, List.set_append_right _ _ (by simp)]
  rw [List.replicate_succ']
  simp
theorem halfG_get {n k : Nat} (h : k < n) : ((halfG n k).map (Value.int .i64))[k]? = some (.int .i64 1) := by
  have e : n - k = (n - (k + 1)) + 1 := by omega
  unfold halfG
  rw [e, List.replicate_succ, List.map_append, List.getElem?_append_right (by simp)]
  simp

theorem base_half_t {M : List Int} {n : Nat} (h : M.length = n) (fin : Bool) : baseC M true fin = ⟨M, halfG n n, 2, fin⟩ := by
  unfold baseC halfG
  rw [h]
  simp
theorem base_half_f {M : List Int} {n : Nat} (h : M.length = n) (fin : Bool) : baseC M false fin = ⟨M, halfG n 0, 1, false⟩ := by
  unfold baseC halfG
  rw [h]
  simp

set_option maxRecDepth 100000 in
set_option maxHeartbeats 16000000 in
theorem lAnsN (b : Nat) (hb : b < 256) (up fin : Bool) (e0 : Ent) (q : Bool) (he : e0.Fits) (w : World) :
    Calls Tryz.prog 3 #[.int .u8 (b : Nat), .bool up, .bool fin, .agg #[.int .u64 e0.term, .int .u64 e0.index, .int .i64 e0.kind, .int .u64 e0.client, .int .u64 e0.seq, .int .u64 e0.block, .int .u64 e0.many, .int .i64 e0.node, .int .i64 e0.level, .string e0.data, .string e0.old, .bool q]] w fun e w' => e = .returned (.bool true) ∧ Fr [] w w' := by
  obtain ⟨mx, hmx⟩ : ∃ mx, w.heap.size = mx := ⟨_, rfl⟩
  have hS := (Sat.refl [] w).new mx hmx #[.int .u64 e0.term, .int .u64 e0.index, .int .i64 e0.kind, .int .u64 e0.client, .int .u64 e0.seq, .int .u64 e0.block, .int .u64 e0.many, .int .i64 e0.node, .int .i64 e0.level, .string e0.data, .string e0.old, .bool q] 26
  have hsl := someL_len b
  have HM := Lib.hid (fun w1 => made_own e0 w1 he)
  have hmok := madeOf_ok e0
  have hmfit := madeOf_fits e0 he
  generalize hm : madeOf e0 = m at *
  have HA := Lib.hid (ans_of hb up fin m hmok)
  have HF := Lib.hid hmfit
  clear hm hmok hmfit
  have hc0 : newC (someL b) = ⟨memL (someL b), halfG (memL (someL b)).length 0, 1, false⟩ := by unfold newC halfG; simp
  go_enter Tryz.func3, Tryz.ntmps3
  go_upto_region 1 with fail
  generalize w.alloc (.cells #[.int .u64 e0.term, .int .u64 e0.index, .int .i64 e0.kind, .int .u64 e0.client, .int .u64 e0.seq, .int .u64 e0.block, .int .u64 e0.many, .int .i64 e0.node, .int .i64 e0.level, .string e0.data, .string e0.old, .bool q] 26) = w0 at *
  have HX := Lib.hid hmx
  clear hmx
  go_upto_region 7 with (first
    | (go_at_call 6; refine Sat.callF hS (lExamples _) (fun w1 hS => ?_))
    | (go_at_call 8; refine Sat.call0 hS (lSome b hb _) (fun ⟨g0, c0⟩ w2 hS => ?_); dsimp only [List.cons_append, List.nil_append] at hS)
    | (go_at_call 7; refine cNew hS (L := someL b) (hS.mem 0 rfl) (someL_ne b) (by omega) (some_ok hb) hc0 rfl ?_; rintro ⟨g1, c1, g2, c2⟩ w3 hS; dsimp only at hS; simp only [cfC, ivV, halfG_len (Nat.zero_le _)]))
  generalize hM : memL (someL b) = M at *
  clear hM hc0 hsl
  have hM7 : M.length ≤ 7 ∧ 1 ≤ M.length := by have := (Cfg.ok_iff _).1 HA.out.1; have h1 : (baseC M up fin).M = M := (by cases up <;> rfl); rw [h1] at this; omega
  generalize hn : M.length = n at *
  have HN := Lib.hid hn
  clear hn
  have hS := hS.new _ rfl #[.slice (some ⟨g1, 0, none⟩) n c1, .slice (some ⟨g2, 0, none⟩) n c2, .int .i64 1, .bool false] 30
  generalize w3.heap.size = cx at *
  generalize w3.alloc (.cells #[.slice (some ⟨g1, 0, none⟩) n c1, .slice (some ⟨g2, 0, none⟩) n c2, .int .i64 1, .bool false] 30) = w4 at *
  have fs := hS.says
  simp only [says, Ck.say] at fs
  have hprep : Hid (∀ (C : Cfg) (G : List Int) (wq : World) (a : Act), True) := fun _ _ _ _ => trivial
  cases up with
  | true =>
    go_upto_region 10 with fail
    clear fs
    have hS := (hS.set 0 rfl 2 (.int .i64 2)).set 0 rfl 3 (.bool fin)
    simp only [List.set_cons_zero, List.setIfInBounds_toArray, List.set_cons_succ] at hS
    generalize ((w4.setCell ⟨cx, 2, none⟩ (.int .i64 2)).setCell ⟨cx, 3, none⟩ (.bool fin)) = w5 at *
    go_wp2_with fail
    go_loopw [12] (fun i wr => ∃ k : Nat, k ≤ n ∧ i = .int .i64 k ∧ Hid (Sat [] w [(cx, .cel #[.slice (some ⟨g1, 0, none⟩) n c1, .slice (some ⟨g2, 0, none⟩) n c2, .int .i64 2, .bool fin] 30), (g1, ivCh 3 c1 M), (g2, ivCh 3 c2 (halfG n k)), (mx, .cel #[.int .u64 e0.term, .int .u64 e0.index, .int .i64 e0.kind, .int .u64 e0.client, .int .u64 e0.seq, .int .u64 e0.block, .int .u64 e0.many, .int .i64 e0.node, .int .i64 e0.level, .string e0.data, .string e0.old, .bool q] 26)] wr)) (fun i _ => n - (intOf i).toNat)
    case atStart => exact ⟨0, Nat.zero_le _, rfl, hS.pick [0, 1, 2, 4] (by decide) rfl⟩
    case round =>
      clear hS
      obtain ⟨k, hk, rfl, hS⟩ := hrel
      have hS := hS.out
      have fs := hS.says
      simp only [says, Ck.say] at fs
      by_cases hlt : k < n
      · have e2 : wr.cell? ⟨g2, k, none⟩ = some (.int .i64 1) := by
          have h1 := (hS.mem 2 rfl).says
          simp only [Ck.say, List.length_map, halfG_len hk] at h1
          rw [h1.1 k hlt, halfG_get hlt]
        go_wp2_with fail
        have hS := hS.setRow 2 rfl k (.int .i64 2)
        rw [halfG_set hlt] at hS
        go_roundw
        case rel => exact ⟨k + 1, by omega, by first | rfl | go_num, hS⟩
        case measure => simp [intOf]; omega
      · obtain rfl : k = n := by omega
        obtain ⟨hCok, D, hD⟩ := HA.out
        rw [base_half_t HN.out fin] at hCok hD
        obtain ⟨wn, hwn⟩ : ∃ wn, wantOf M true fin m.kind m.node m.level = wn := ⟨_, rfl⟩
        rw [hwn] at hD
        have EC : Hid ((#[.slice (some ⟨g1, 0, none⟩) k c1, .slice (some ⟨g2, 0, none⟩) k c2, .int .i64 2, .bool fin] : Array Value) = cfC g1 c1 g2 c2 ⟨M, halfG k k, 2, fin⟩) := by
          show _ = _
          unfold cfC ivV
          rw [HN.out, halfG_len (by omega)]
        have HOK := Lib.hid hCok
        have HD := Lib.hid hD
        have H4 : Hid (M.length ≤ 4096) := by show _ ≤ _; rw [HN.out]; omega
        clear hCok hD
        unfold wantOf at hwn
        generalize hh : M.contains m.node = has at *
        rw [HN.out] at hwn
        have HH := Lib.hid hh
        clear hh
        go_upto_region 15 with fail
        have hS := hS.set 3 rfl 11 (.bool true)
        simp only [List.setIfInBounds_toArray, List.set_cons_succ, List.set_cons_zero] at hS
        generalize (wr.setCell ⟨mx, 11, none⟩ (.bool true)) = w6 at *
        clear fs; have fs := hS.says; simp only [says, Ck.say] at fs
        go_upto_region 16 with (go_at_call 9; refine Sat.callF hS (HM.out _) (fun w7 hS => ?_); simp only [Ent.cells]; clear fs; have fs := hS.says; simp only [says, Ck.say] at fs)
        clear fs
        have hS := hS.new _ rfl #[.int .u64 m.term, .int .u64 m.index, .int .i64 m.kind, .int .u64 m.client, .int .u64 m.seq, .int .u64 m.block, .int .u64 m.many, .int .i64 m.node, .int .i64 m.level, .string m.data, .string m.old] 24
        generalize w7.heap.size = ex at *
        generalize w7.alloc (.cells #[.int .u64 m.term, .int .u64 m.index, .int .i64 m.kind, .int .u64 m.client, .int .u64 m.seq, .int .u64 m.block, .int .u64 m.many, .int .i64 m.node, .int .i64 m.level, .string m.data, .string m.old] 24) = w8 at *
        have fs := hS.says
        simp only [says, Ck.say] at fs
        go_upto_region 17 with (go_at_call 10; rw [EC.out]; refine Sat.callF hS (lHas g1 c1 g2 c2 ⟨M, halfG k k, 2, fin⟩ m.node _ (hS.cf 2 3 rfl rfl (by decide)) H4.out) (fun w9 hS => ?_); dsimp only; rw [HH.out]; clear fs; have fs := hS.says; simp only [says, Ck.say] at fs)
        have hk : m.kind = 5 ∨ m.kind = 6 ∨ m.kind = 7 ∨ m.kind = 8 ∨ m.kind = 9 ∨ m.kind = 10 ∨ (m.kind ≠ 5 ∧ m.kind ≠ 6 ∧ m.kind ≠ 7 ∧ m.kind ≠ 8 ∧ m.kind ≠ 9 ∧ m.kind ≠ 10) := by omega
        rcases hk with hk | hk | hk | hk | hk | hk | ⟨n5, n6, n7, n8, n9, n10⟩
        · have q5 : (m.kind == 5) = true := by rw [hk]; rfl
          have q6 : (m.kind == 6) = false := by rw [hk]; rfl
          have q7 : (m.kind == 7) = false := by rw [hk]; rfl
          have q8 : (m.kind == 8) = false := by rw [hk]; rfl
          have q9 : (m.kind == 9) = false := by rw [hk]; rfl
          have q10 : (m.kind == 10) = false := by rw [hk]; rfl
          cases has with
          | true =>
            obtain rfl : wn = 10 := by rw [← hwn]; simp [hk]
            clear hwn hk
            go_upto_region 49 with (go_at_call 11; rw [EC.out]; refine cApply hS (gm := g1) (cm := c1) (gh := g2) (ch := c2) (c := ⟨M, halfG k k, 2, fin⟩) (e := m) (hS.cf 2 3 rfl rfl (by decide)) HOK.out HF.out HD.out ?_; rintro ⟨g5, c5, g6, c6⟩ w10 hS; dsimp only at hS; simp only [cfC, ivV]; clear fs; have fs := hS.says; simp only [says, Ck.say] at fs)
            clear fs
            have hS := hS.new _ rfl #[.slice (some ⟨g5, 0, none⟩) D.M.length c5, .slice (some ⟨g6, 0, none⟩) D.G.length c6, .int .i64 D.lvl, .bool D.fin] 30
            generalize w10.heap.size = dx at *
            generalize w10.alloc (.cells #[.slice (some ⟨g5, 0, none⟩) D.M.length c5, .slice (some ⟨g6, 0, none⟩) D.G.length c6, .int .i64 D.lvl, .bool D.fin] 30) = w11 at *
            have fs := hS.says
            simp only [says, Ck.say] at fs
            go_wp2_with (go_at_call 12; rw [EC.out]; refine Sat.callF hS (lRight g1 c1 g2 c2 ⟨M, halfG k k, 2, fin⟩ _ (hS.cf 5 6 rfl rfl (by decide)) HOK.out) (fun w12 hS => ?_))
            go_ret
            exact ⟨rfl, hS.fr⟩
          | false =>
            obtain rfl : wn = 8 := by rw [← hwn]; simp [hk]
            clear hwn hk
            go_upto_region 49 with (go_at_call 11; rw [EC.out]; refine cApply hS (gm := g1) (cm := c1) (gh := g2) (ch := c2) (c := ⟨M, halfG k k, 2, fin⟩) (e := m) (hS.cf 2 3 rfl rfl (by decide)) HOK.out HF.out HD.out ?_; rintro ⟨g5, c5, g6, c6⟩ w10 hS; dsimp only at hS; simp only [cfC, ivV]; clear fs; have fs := hS.says; simp only [says, Ck.say] at fs)
            clear fs
            have hS := hS.new _ rfl #[.slice (some ⟨g5, 0, none⟩) D.M.length c5, .slice (some ⟨g6, 0, none⟩) D.G.length c6, .int .i64 D.lvl, .bool D.fin] 30
            generalize w10.heap.size = dx at *
            generalize w10.alloc (.cells #[.slice (some ⟨g5, 0, none⟩) D.M.length c5, .slice (some ⟨g6, 0, none⟩) D.G.length c6, .int .i64 D.lvl, .bool D.fin] 30) = w11 at *
            have fs := hS.says
            simp only [says, Ck.say] at fs
            go_wp2_with (go_at_call 12; rw [EC.out]; refine Sat.callF hS (lRight g1 c1 g2 c2 ⟨M, halfG k k, 2, fin⟩ _ (hS.cf 5 6 rfl rfl (by decide)) HOK.out) (fun w12 hS => ?_))
            go_ret
            exact ⟨rfl, hS.fr⟩
        · have q5 : (m.kind == 5) = false := by rw [hk]; rfl
          have q6 : (m.kind == 6) = true := by rw [hk]; rfl
          have q7 : (m.kind == 7) = false := by rw [hk]; rfl
          have q8 : (m.kind == 8) = false := by rw [hk]; rfl
          have q9 : (m.kind == 9) = false := by rw [hk]; rfl
          have q10 : (m.kind == 10) = false := by rw [hk]; rfl
          cases has with
          | false =>
            obtain rfl : wn = 6 := by rw [← hwn]; simp [hk]
            clear hwn hk
            go_upto_region 49 with (go_at_call 11; rw [EC.out]; refine cApply hS (gm := g1) (cm := c1) (gh := g2) (ch := c2) (c := ⟨M, halfG k k, 2, fin⟩) (e := m) (hS.cf 2 3 rfl rfl (by decide)) HOK.out HF.out HD.out ?_; rintro ⟨g5, c5, g6, c6⟩ w10 hS; dsimp only at hS; simp only [cfC, ivV]; clear fs; have fs := hS.says; simp only [says, Ck.say] at fs)
            clear fs
            have hS := hS.new _ rfl #[.slice (some ⟨g5, 0, none⟩) D.M.length c5, .slice (some ⟨g6, 0, none⟩) D.G.length c6, .int .i64 D.lvl, .bool D.fin] 30
            generalize w10.heap.size = dx at *
            generalize w10.alloc (.cells #[.slice (some ⟨g5, 0, none⟩) D.M.length c5, .slice (some ⟨g6, 0, none⟩) D.G.length c6, .int .i64 D.lvl, .bool D.fin] 30) = w11 at *
            have fs := hS.says
            simp only [says, Ck.say] at fs
            go_wp2_with (go_at_call 12; rw [EC.out]; refine Sat.callF hS (lRight g1 c1 g2 c2 ⟨M, halfG k k, 2, fin⟩ _ (hS.cf 5 6 rfl rfl (by decide)) HOK.out) (fun w12 hS => ?_))
            go_ret
            exact ⟨rfl, hS.fr⟩
          | true =>
            by_cases h1 : k = 1
            · have r1 : ((k : Int) == 1) = true := by rw [h1]; rfl
              obtain rfl : wn = 10 := by rw [← hwn]; simp [hk, h1]
              clear hwn hk h1
              go_upto_region 49 with (go_at_call 11; rw [EC.out]; refine cApply hS (gm := g1) (cm := c1) (gh := g2) (ch := c2) (c := ⟨M, halfG k k, 2, fin⟩) (e := m) (hS.cf 2 3 rfl rfl (by decide)) HOK.out HF.out HD.out ?_; rintro ⟨g5, c5, g6, c6⟩ w10 hS; dsimp only at hS; simp only [cfC, ivV]; clear fs; have fs := hS.says; simp only [says, Ck.say] at fs)
              clear fs
              have hS := hS.new _ rfl #[.slice (some ⟨g5, 0, none⟩) D.M.length c5, .slice (some ⟨g6, 0, none⟩) D.G.length c6, .int .i64 D.lvl, .bool D.fin] 30
              generalize w10.heap.size = dx at *
              generalize w10.alloc (.cells #[.slice (some ⟨g5, 0, none⟩) D.M.length c5, .slice (some ⟨g6, 0, none⟩) D.G.length c6, .int .i64 D.lvl, .bool D.fin] 30) = w11 at *
              have fs := hS.says
              simp only [says, Ck.say] at fs
              go_wp2_with (go_at_call 12; rw [EC.out]; refine Sat.callF hS (lRight g1 c1 g2 c2 ⟨M, halfG k k, 2, fin⟩ _ (hS.cf 5 6 rfl rfl (by decide)) HOK.out) (fun w12 hS => ?_))
              go_ret
              exact ⟨rfl, hS.fr⟩
            · have r1 : ((k : Int) == 1) = false := by rw [beq_eq_false_iff_ne]; omega
              obtain rfl : wn = 0 := by rw [← hwn]; simp [hk, h1]
              clear hwn hk h1
              go_upto_region 49 with (go_at_call 11; rw [EC.out]; refine cApply hS (gm := g1) (cm := c1) (gh := g2) (ch := c2) (c := ⟨M, halfG k k, 2, fin⟩) (e := m) (hS.cf 2 3 rfl rfl (by decide)) HOK.out HF.out HD.out ?_; rintro ⟨g5, c5, g6, c6⟩ w10 hS; dsimp only at hS; simp only [cfC, ivV]; clear fs; have fs := hS.says; simp only [says, Ck.say] at fs)
              clear fs
              have hS := hS.new _ rfl #[.slice (some ⟨g5, 0, none⟩) D.M.length c5, .slice (some ⟨g6, 0, none⟩) D.G.length c6, .int .i64 D.lvl, .bool D.fin] 30
              generalize w10.heap.size = dx at *
              generalize w10.alloc (.cells #[.slice (some ⟨g5, 0, none⟩) D.M.length c5, .slice (some ⟨g6, 0, none⟩) D.G.length c6, .int .i64 D.lvl, .bool D.fin] 30) = w11 at *
              have fs := hS.says
              simp only [says, Ck.say] at fs
              go_wp2_with (go_at_call 12; rw [EC.out]; refine Sat.callF hS (lRight g1 c1 g2 c2 ⟨M, halfG k k, 2, fin⟩ _ (hS.cf 5 6 rfl rfl (by decide)) HOK.out) (fun w12 hS => ?_))
              go_ret
              exact ⟨rfl, hS.fr⟩
        · have q5 : (m.kind == 5) = false := by rw [hk]; rfl
          have q6 : (m.kind == 6) = false := by rw [hk]; rfl
          have q7 : (m.kind == 7) = true := by rw [hk]; rfl
          have q8 : (m.kind == 8) = false := by rw [hk]; rfl
          have q9 : (m.kind == 9) = false := by rw [hk]; rfl
          have q10 : (m.kind == 10) = false := by rw [hk]; rfl
          cases has with
          | false =>
            obtain rfl : wn = 6 := by rw [← hwn]; simp [hk]
            clear hwn hk
            go_upto_region 49 with (go_at_call 11; rw [EC.out]; refine cApply hS (gm := g1) (cm := c1) (gh := g2) (ch := c2) (c := ⟨M, halfG k k, 2, fin⟩) (e := m) (hS.cf 2 3 rfl rfl (by decide)) HOK.out HF.out HD.out ?_; rintro ⟨g5, c5, g6, c6⟩ w10 hS; dsimp only at hS; simp only [cfC, ivV]; clear fs; have fs := hS.says; simp only [says, Ck.say] at fs)
            clear fs
            have hS := hS.new _ rfl #[.slice (some ⟨g5, 0, none⟩) D.M.length c5, .slice (some ⟨g6, 0, none⟩) D.G.length c6, .int .i64 D.lvl, .bool D.fin] 30
            generalize w10.heap.size = dx at *
            generalize w10.alloc (.cells #[.slice (some ⟨g5, 0, none⟩) D.M.length c5, .slice (some ⟨g6, 0, none⟩) D.G.length c6, .int .i64 D.lvl, .bool D.fin] 30) = w11 at *
            have fs := hS.says
            simp only [says, Ck.say] at fs
            go_wp2_with (go_at_call 12; rw [EC.out]; refine Sat.callF hS (lRight g1 c1 g2 c2 ⟨M, halfG k k, 2, fin⟩ _ (hS.cf 5 6 rfl rfl (by decide)) HOK.out) (fun w12 hS => ?_))
            go_ret
            exact ⟨rfl, hS.fr⟩
          | true =>
            by_cases h1 : m.level = 1
            · have r1 : (m.level == 1) = true := by rw [h1]; rfl
              obtain rfl : wn = 8 := by rw [← hwn]; simp [hk, h1]
              clear hwn hk h1
              go_upto_region 49 with (go_at_call 11; rw [EC.out]; refine cApply hS (gm := g1) (cm := c1) (gh := g2) (ch := c2) (c := ⟨M, halfG k k, 2, fin⟩) (e := m) (hS.cf 2 3 rfl rfl (by decide)) HOK.out HF.out HD.out ?_; rintro ⟨g5, c5, g6, c6⟩ w10 hS; dsimp only at hS; simp only [cfC, ivV]; clear fs; have fs := hS.says; simp only [says, Ck.say] at fs)
              clear fs
              have hS := hS.new _ rfl #[.slice (some ⟨g5, 0, none⟩) D.M.length c5, .slice (some ⟨g6, 0, none⟩) D.G.length c6, .int .i64 D.lvl, .bool D.fin] 30
              generalize w10.heap.size = dx at *
              generalize w10.alloc (.cells #[.slice (some ⟨g5, 0, none⟩) D.M.length c5, .slice (some ⟨g6, 0, none⟩) D.G.length c6, .int .i64 D.lvl, .bool D.fin] 30) = w11 at *
              have fs := hS.says
              simp only [says, Ck.say] at fs
              go_wp2_with (go_at_call 12; rw [EC.out]; refine Sat.callF hS (lRight g1 c1 g2 c2 ⟨M, halfG k k, 2, fin⟩ _ (hS.cf 5 6 rfl rfl (by decide)) HOK.out) (fun w12 hS => ?_))
              go_ret
              exact ⟨rfl, hS.fr⟩
            · have r1 : (m.level == 1) = false := by rw [beq_eq_false_iff_ne]; exact h1
              obtain rfl : wn = 0 := by rw [← hwn]; simp [hk, h1]
              clear hwn hk h1
              go_upto_region 49 with (go_at_call 11; rw [EC.out]; refine cApply hS (gm := g1) (cm := c1) (gh := g2) (ch := c2) (c := ⟨M, halfG k k, 2, fin⟩) (e := m) (hS.cf 2 3 rfl rfl (by decide)) HOK.out HF.out HD.out ?_; rintro ⟨g5, c5, g6, c6⟩ w10 hS; dsimp only at hS; simp only [cfC, ivV]; clear fs; have fs := hS.says; simp only [says, Ck.say] at fs)
              clear fs
              have hS := hS.new _ rfl #[.slice (some ⟨g5, 0, none⟩) D.M.length c5, .slice (some ⟨g6, 0, none⟩) D.G.length c6, .int .i64 D.lvl, .bool D.fin] 30
              generalize w10.heap.size = dx at *
              generalize w10.alloc (.cells #[.slice (some ⟨g5, 0, none⟩) D.M.length c5, .slice (some ⟨g6, 0, none⟩) D.G.length c6, .int .i64 D.lvl, .bool D.fin] 30) = w11 at *
              have fs := hS.says
              simp only [says, Ck.say] at fs
              go_wp2_with (go_at_call 12; rw [EC.out]; refine Sat.callF hS (lRight g1 c1 g2 c2 ⟨M, halfG k k, 2, fin⟩ _ (hS.cf 5 6 rfl rfl (by decide)) HOK.out) (fun w12 hS => ?_))
              go_ret
              exact ⟨rfl, hS.fr⟩
        · have q5 : (m.kind == 5) = false := by rw [hk]; rfl
          have q6 : (m.kind == 6) = false := by rw [hk]; rfl
          have q7 : (m.kind == 7) = false := by rw [hk]; rfl
          have q8 : (m.kind == 8) = true := by rw [hk]; rfl
          have q9 : (m.kind == 9) = false := by rw [hk]; rfl
          have q10 : (m.kind == 10) = false := by rw [hk]; rfl
          obtain rfl : wn = 10 := by rw [← hwn]; simp [hk]
          clear hwn hk
          go_upto_region 49 with (go_at_call 11; rw [EC.out]; refine cApply hS (gm := g1) (cm := c1) (gh := g2) (ch := c2) (c := ⟨M, halfG k k, 2, fin⟩) (e := m) (hS.cf 2 3 rfl rfl (by decide)) HOK.out HF.out HD.out ?_; rintro ⟨g5, c5, g6, c6⟩ w10 hS; dsimp only at hS; simp only [cfC, ivV]; clear fs; have fs := hS.says; simp only [says, Ck.say] at fs)
          clear fs
          have hS := hS.new _ rfl #[.slice (some ⟨g5, 0, none⟩) D.M.length c5, .slice (some ⟨g6, 0, none⟩) D.G.length c6, .int .i64 D.lvl, .bool D.fin] 30
          generalize w10.heap.size = dx at *
          generalize w10.alloc (.cells #[.slice (some ⟨g5, 0, none⟩) D.M.length c5, .slice (some ⟨g6, 0, none⟩) D.G.length c6, .int .i64 D.lvl, .bool D.fin] 30) = w11 at *
          have fs := hS.says
          simp only [says, Ck.say] at fs
          go_wp2_with (go_at_call 12; rw [EC.out]; refine Sat.callF hS (lRight g1 c1 g2 c2 ⟨M, halfG k k, 2, fin⟩ _ (hS.cf 5 6 rfl rfl (by decide)) HOK.out) (fun w12 hS => ?_))
          go_ret
          exact ⟨rfl, hS.fr⟩
        · have q5 : (m.kind == 5) = false := by rw [hk]; rfl
          have q6 : (m.kind == 6) = false := by rw [hk]; rfl
          have q7 : (m.kind == 7) = false := by rw [hk]; rfl
          have q8 : (m.kind == 8) = false := by rw [hk]; rfl
          have q9 : (m.kind == 9) = true := by rw [hk]; rfl
          have q10 : (m.kind == 10) = false := by rw [hk]; rfl
          cases fin with
          | true =>
            obtain rfl : wn = 8 := by rw [← hwn]; simp [hk]
            clear hwn hk
            go_upto_region 49 with (go_at_call 11; rw [EC.out]; refine cApply hS (gm := g1) (cm := c1) (gh := g2) (ch := c2) (c := ⟨M, halfG k k, 2, true⟩) (e := m) (hS.cf 2 3 rfl rfl (by decide)) HOK.out HF.out HD.out ?_; rintro ⟨g5, c5, g6, c6⟩ w10 hS; dsimp only at hS; simp only [cfC, ivV]; clear fs; have fs := hS.says; simp only [says, Ck.say] at fs)
            clear fs
            have hS := hS.new _ rfl #[.slice (some ⟨g5, 0, none⟩) D.M.length c5, .slice (some ⟨g6, 0, none⟩) D.G.length c6, .int .i64 D.lvl, .bool D.fin] 30
            generalize w10.heap.size = dx at *
            generalize w10.alloc (.cells #[.slice (some ⟨g5, 0, none⟩) D.M.length c5, .slice (some ⟨g6, 0, none⟩) D.G.length c6, .int .i64 D.lvl, .bool D.fin] 30) = w11 at *
            have fs := hS.says
            simp only [says, Ck.say] at fs
            go_wp2_with (go_at_call 12; rw [EC.out]; refine Sat.callF hS (lRight g1 c1 g2 c2 ⟨M, halfG k k, 2, true⟩ _ (hS.cf 5 6 rfl rfl (by decide)) HOK.out) (fun w12 hS => ?_))
            go_ret
            exact ⟨rfl, hS.fr⟩
          | false =>
            obtain rfl : wn = 0 := by rw [← hwn]; simp [hk]
            clear hwn hk
            go_upto_region 49 with (go_at_call 11; rw [EC.out]; refine cApply hS (gm := g1) (cm := c1) (gh := g2) (ch := c2) (c := ⟨M, halfG k k, 2, false⟩) (e := m) (hS.cf 2 3 rfl rfl (by decide)) HOK.out HF.out HD.out ?_; rintro ⟨g5, c5, g6, c6⟩ w10 hS; dsimp only at hS; simp only [cfC, ivV]; clear fs; have fs := hS.says; simp only [says, Ck.say] at fs)
            clear fs
            have hS := hS.new _ rfl #[.slice (some ⟨g5, 0, none⟩) D.M.length c5, .slice (some ⟨g6, 0, none⟩) D.G.length c6, .int .i64 D.lvl, .bool D.fin] 30
            generalize w10.heap.size = dx at *
            generalize w10.alloc (.cells #[.slice (some ⟨g5, 0, none⟩) D.M.length c5, .slice (some ⟨g6, 0, none⟩) D.G.length c6, .int .i64 D.lvl, .bool D.fin] 30) = w11 at *
            have fs := hS.says
            simp only [says, Ck.say] at fs
            go_wp2_with (go_at_call 12; rw [EC.out]; refine Sat.callF hS (lRight g1 c1 g2 c2 ⟨M, halfG k k, 2, false⟩ _ (hS.cf 5 6 rfl rfl (by decide)) HOK.out) (fun w12 hS => ?_))
            go_ret
            exact ⟨rfl, hS.fr⟩
        · have q5 : (m.kind == 5) = false := by rw [hk]; rfl
          have q6 : (m.kind == 6) = false := by rw [hk]; rfl
          have q7 : (m.kind == 7) = false := by rw [hk]; rfl
          have q8 : (m.kind == 8) = false := by rw [hk]; rfl
          have q9 : (m.kind == 9) = false := by rw [hk]; rfl
          have q10 : (m.kind == 10) = true := by rw [hk]; rfl
          cases fin with
          | true =>
            obtain rfl : wn = 10 := by rw [← hwn]; simp [hk]
            clear hwn hk
            go_upto_region 49 with (go_at_call 11; rw [EC.out]; refine cApply hS (gm := g1) (cm := c1) (gh := g2) (ch := c2) (c := ⟨M, halfG k k, 2, true⟩) (e := m) (hS.cf 2 3 rfl rfl (by decide)) HOK.out HF.out HD.out ?_; rintro ⟨g5, c5, g6, c6⟩ w10 hS; dsimp only at hS; simp only [cfC, ivV]; clear fs; have fs := hS.says; simp only [says, Ck.say] at fs)
            clear fs
            have hS := hS.new _ rfl #[.slice (some ⟨g5, 0, none⟩) D.M.length c5, .slice (some ⟨g6, 0, none⟩) D.G.length c6, .int .i64 D.lvl, .bool D.fin] 30
            generalize w10.heap.size = dx at *
            generalize w10.alloc (.cells #[.slice (some ⟨g5, 0, none⟩) D.M.length c5, .slice (some ⟨g6, 0, none⟩) D.G.length c6, .int .i64 D.lvl, .bool D.fin] 30) = w11 at *
            have fs := hS.says
            simp only [says, Ck.say] at fs
            go_wp2_with (go_at_call 12; rw [EC.out]; refine Sat.callF hS (lRight g1 c1 g2 c2 ⟨M, halfG k k, 2, true⟩ _ (hS.cf 5 6 rfl rfl (by decide)) HOK.out) (fun w12 hS => ?_))
            go_ret
            exact ⟨rfl, hS.fr⟩
          | false =>
            obtain rfl : wn = 0 := by rw [← hwn]; simp [hk]
            clear hwn hk
            go_upto_region 49 with (go_at_call 11; rw [EC.out]; refine cApply hS (gm := g1) (cm := c1) (gh := g2) (ch := c2) (c := ⟨M, halfG k k, 2, false⟩) (e := m) (hS.cf 2 3 rfl rfl (by decide)) HOK.out HF.out HD.out ?_; rintro ⟨g5, c5, g6, c6⟩ w10 hS; dsimp only at hS; simp only [cfC, ivV]; clear fs; have fs := hS.says; simp only [says, Ck.say] at fs)
            clear fs
            have hS := hS.new _ rfl #[.slice (some ⟨g5, 0, none⟩) D.M.length c5, .slice (some ⟨g6, 0, none⟩) D.G.length c6, .int .i64 D.lvl, .bool D.fin] 30
            generalize w10.heap.size = dx at *
            generalize w10.alloc (.cells #[.slice (some ⟨g5, 0, none⟩) D.M.length c5, .slice (some ⟨g6, 0, none⟩) D.G.length c6, .int .i64 D.lvl, .bool D.fin] 30) = w11 at *
            have fs := hS.says
            simp only [says, Ck.say] at fs
            go_wp2_with (go_at_call 12; rw [EC.out]; refine Sat.callF hS (lRight g1 c1 g2 c2 ⟨M, halfG k k, 2, false⟩ _ (hS.cf 5 6 rfl rfl (by decide)) HOK.out) (fun w12 hS => ?_))
            go_ret
            exact ⟨rfl, hS.fr⟩
        · have q5 : (m.kind == 5) = false := by rw [beq_eq_false_iff_ne]; exact n5
          have q6 : (m.kind == 6) = false := by rw [beq_eq_false_iff_ne]; exact n6
          have q7 : (m.kind == 7) = false := by rw [beq_eq_false_iff_ne]; exact n7
          have q8 : (m.kind == 8) = false := by rw [beq_eq_false_iff_ne]; exact n8
          have q9 : (m.kind == 9) = false := by rw [beq_eq_false_iff_ne]; exact n9
          have q10 : (m.kind == 10) = false := by rw [beq_eq_false_iff_ne]; exact n10
          obtain rfl : wn = 0 := by rw [← hwn]; simp [n5, n6, n7, n8, n9, n10]
          clear hwn n5 n6 n7 n8 n9 n10
          go_upto_region 49 with (go_at_call 11; rw [EC.out]; refine cApply hS (gm := g1) (cm := c1) (gh := g2) (ch := c2) (c := ⟨M, halfG k k, 2, fin⟩) (e := m) (hS.cf 2 3 rfl rfl (by decide)) HOK.out HF.out HD.out ?_; rintro ⟨g5, c5, g6, c6⟩ w10 hS; dsimp only at hS; simp only [cfC, ivV]; clear fs; have fs := hS.says; simp only [says, Ck.say] at fs)
          clear fs
          have hS := hS.new _ rfl #[.slice (some ⟨g5, 0, none⟩) D.M.length c5, .slice (some ⟨g6, 0, none⟩) D.G.length c6, .int .i64 D.lvl, .bool D.fin] 30
          generalize w10.heap.size = dx at *
          generalize w10.alloc (.cells #[.slice (some ⟨g5, 0, none⟩) D.M.length c5, .slice (some ⟨g6, 0, none⟩) D.G.length c6, .int .i64 D.lvl, .bool D.fin] 30) = w11 at *
          have fs := hS.says
          simp only [says, Ck.say] at fs
          go_wp2_with (go_at_call 12; rw [EC.out]; refine Sat.callF hS (lRight g1 c1 g2 c2 ⟨M, halfG k k, 2, fin⟩ _ (hS.cf 5 6 rfl rfl (by decide)) HOK.out) (fun w12 hS => ?_))
          go_ret
          exact ⟨rfl, hS.fr⟩
  | false =>
    have hS : Sat [] w [(cx, .cel #[.slice (some ⟨g1, 0, none⟩) n c1, .slice (some ⟨g2, 0, none⟩) n c2, .int .i64 1, .bool false] 30), (g1, ivCh 3 c1 M), (g2, ivCh 3 c2 (halfG n 0)), (mx, .cel #[.int .u64 e0.term, .int .u64 e0.index, .int .i64 e0.kind, .int .u64 e0.client, .int .u64 e0.seq, .int .u64 e0.block, .int .u64 e0.many, .int .i64 e0.node, .int .i64 e0.level, .string e0.data, .string e0.old, .bool q] 26)] w4 := hS.pick [0, 1, 2, 4] (by decide) rfl
    clear fs
    have fs := hS.says
    simp only [says, Ck.say] at fs
    obtain ⟨hCok, D, hD⟩ := HA.out
    rw [base_half_f HN.out fin] at hCok hD
    obtain ⟨wn, hwn⟩ : ∃ wn, wantOf M false fin m.kind m.node m.level = wn := ⟨_, rfl⟩
    rw [hwn] at hD
    have EC : Hid ((#[.slice (some ⟨g1, 0, none⟩) n c1, .slice (some ⟨g2, 0, none⟩) n c2, .int .i64 1, .bool false] : Array Value) = cfC g1 c1 g2 c2 ⟨M, halfG n 0, 1, false⟩) := by
      show _ = _
      unfold cfC ivV
      rw [HN.out, halfG_len (by omega)]
    have HOK := Lib.hid hCok
    have HD := Lib.hid hD
    have H4 : Hid (M.length ≤ 4096) := by show _ ≤ _; rw [HN.out]; omega
    clear hCok hD
    unfold wantOf at hwn
    generalize hh : M.contains m.node = has at *
    rw [HN.out] at hwn
    have HH := Lib.hid hh
    clear hh
    go_upto_region 15 with fail
    have hS := hS.set 3 rfl 11 (.bool true)
    simp only [List.setIfInBounds_toArray, List.set_cons_succ, List.set_cons_zero] at hS
    generalize (w4.setCell ⟨mx, 11, none⟩ (.bool true)) = w6 at *
    clear fs; have fs := hS.says; simp only [says, Ck.say] at fs
    go_upto_region 16 with (go_at_call 9; refine Sat.callF hS (HM.out _) (fun w7 hS => ?_); simp only [Ent.cells]; clear fs; have fs := hS.says; simp only [says, Ck.say] at fs)
    clear fs
    have hS := hS.new _ rfl #[.int .u64 m.term, .int .u64 m.index, .int .i64 m.kind, .int .u64 m.client, .int .u64 m.seq, .int .u64 m.block, .int .u64 m.many, .int .i64 m.node, .int .i64 m.level, .string m.data, .string m.old] 24
    generalize w7.heap.size = ex at *
    generalize w7.alloc (.cells #[.int .u64 m.term, .int .u64 m.index, .int .i64 m.kind, .int .u64 m.client, .int .u64 m.seq, .int .u64 m.block, .int .u64 m.many, .int .i64 m.node, .int .i64 m.level, .string m.data, .string m.old] 24) = w8 at *
    have fs := hS.says
    simp only [says, Ck.say] at fs
    go_upto_region 17 with (go_at_call 10; rw [EC.out]; refine Sat.callF hS (lHas g1 c1 g2 c2 ⟨M, halfG n 0, 1, false⟩ m.node _ (hS.cf 2 3 rfl rfl (by decide)) H4.out) (fun w9 hS => ?_); dsimp only; rw [HH.out]; clear fs; have fs := hS.says; simp only [says, Ck.say] at fs)
    have hk : m.kind = 5 ∨ m.kind = 6 ∨ m.kind = 7 ∨ m.kind = 8 ∨ m.kind = 9 ∨ m.kind = 10 ∨ (m.kind ≠ 5 ∧ m.kind ≠ 6 ∧ m.kind ≠ 7 ∧ m.kind ≠ 8 ∧ m.kind ≠ 9 ∧ m.kind ≠ 10) := by omega
    rcases hk with hk | hk | hk | hk | hk | hk | ⟨n5, n6, n7, n8, n9, n10⟩
    · have q5 : (m.kind == 5) = true := by rw [hk]; rfl
      have q6 : (m.kind == 6) = false := by rw [hk]; rfl
      have q7 : (m.kind == 7) = false := by rw [hk]; rfl
      have q8 : (m.kind == 8) = false := by rw [hk]; rfl
      have q9 : (m.kind == 9) = false := by rw [hk]; rfl
      have q10 : (m.kind == 10) = false := by rw [hk]; rfl
      cases has with
      | true =>
        obtain rfl : wn = 10 := by rw [← hwn]; simp [hk]
        clear hwn hk
        go_upto_region 49 with (go_at_call 11; rw [EC.out]; refine cApply hS (gm := g1) (cm := c1) (gh := g2) (ch := c2) (c := ⟨M, halfG n 0, 1, false⟩) (e := m) (hS.cf 2 3 rfl rfl (by decide)) HOK.out HF.out HD.out ?_; rintro ⟨g5, c5, g6, c6⟩ w10 hS; dsimp only at hS; simp only [cfC, ivV]; clear fs; have fs := hS.says; simp only [says, Ck.say] at fs)
        clear fs
        have hS := hS.new _ rfl #[.slice (some ⟨g5, 0, none⟩) D.M.length c5, .slice (some ⟨g6, 0, none⟩) D.G.length c6, .int .i64 D.lvl, .bool D.fin] 30
        generalize w10.heap.size = dx at *
        generalize w10.alloc (.cells #[.slice (some ⟨g5, 0, none⟩) D.M.length c5, .slice (some ⟨g6, 0, none⟩) D.G.length c6, .int .i64 D.lvl, .bool D.fin] 30) = w11 at *
        have fs := hS.says
        simp only [says, Ck.say] at fs
        go_wp2_with (go_at_call 12; rw [EC.out]; refine Sat.callF hS (lRight g1 c1 g2 c2 ⟨M, halfG n 0, 1, false⟩ _ (hS.cf 5 6 rfl rfl (by decide)) HOK.out) (fun w12 hS => ?_))
        go_ret
        exact ⟨rfl, hS.fr⟩
      | false =>
        obtain rfl : wn = 0 := by rw [← hwn]; simp [hk]
        clear hwn hk
        go_upto_region 49 with (go_at_call 11; rw [EC.out]; refine cApply hS (gm := g1) (cm := c1) (gh := g2) (ch := c2) (c := ⟨M, halfG n 0, 1, false⟩) (e := m) (hS.cf 2 3 rfl rfl (by decide)) HOK.out HF.out HD.out ?_; rintro ⟨g5, c5, g6, c6⟩ w10 hS; dsimp only at hS; simp only [cfC, ivV]; clear fs; have fs := hS.says; simp only [says, Ck.say] at fs)
        clear fs
        have hS := hS.new _ rfl #[.slice (some ⟨g5, 0, none⟩) D.M.length c5, .slice (some ⟨g6, 0, none⟩) D.G.length c6, .int .i64 D.lvl, .bool D.fin] 30
        generalize w10.heap.size = dx at *
        generalize w10.alloc (.cells #[.slice (some ⟨g5, 0, none⟩) D.M.length c5, .slice (some ⟨g6, 0, none⟩) D.G.length c6, .int .i64 D.lvl, .bool D.fin] 30) = w11 at *
        have fs := hS.says
        simp only [says, Ck.say] at fs
        go_wp2_with (go_at_call 12; rw [EC.out]; refine Sat.callF hS (lRight g1 c1 g2 c2 ⟨M, halfG n 0, 1, false⟩ _ (hS.cf 5 6 rfl rfl (by decide)) HOK.out) (fun w12 hS => ?_))
        go_ret
        exact ⟨rfl, hS.fr⟩
    · have q5 : (m.kind == 5) = false := by rw [hk]; rfl
      have q6 : (m.kind == 6) = true := by rw [hk]; rfl
      have q7 : (m.kind == 7) = false := by rw [hk]; rfl
      have q8 : (m.kind == 8) = false := by rw [hk]; rfl
      have q9 : (m.kind == 9) = false := by rw [hk]; rfl
      have q10 : (m.kind == 10) = false := by rw [hk]; rfl
      cases has with
      | false =>
        obtain rfl : wn = 6 := by rw [← hwn]; simp [hk]
        clear hwn hk
        go_upto_region 49 with (go_at_call 11; rw [EC.out]; refine cApply hS (gm := g1) (cm := c1) (gh := g2) (ch := c2) (c := ⟨M, halfG n 0, 1, false⟩) (e := m) (hS.cf 2 3 rfl rfl (by decide)) HOK.out HF.out HD.out ?_; rintro ⟨g5, c5, g6, c6⟩ w10 hS; dsimp only at hS; simp only [cfC, ivV]; clear fs; have fs := hS.says; simp only [says, Ck.say] at fs)
        clear fs
        have hS := hS.new _ rfl #[.slice (some ⟨g5, 0, none⟩) D.M.length c5, .slice (some ⟨g6, 0, none⟩) D.G.length c6, .int .i64 D.lvl, .bool D.fin] 30
        generalize w10.heap.size = dx at *
        generalize w10.alloc (.cells #[.slice (some ⟨g5, 0, none⟩) D.M.length c5, .slice (some ⟨g6, 0, none⟩) D.G.length c6, .int .i64 D.lvl, .bool D.fin] 30) = w11 at *
        have fs := hS.says
        simp only [says, Ck.say] at fs
        go_wp2_with (go_at_call 12; rw [EC.out]; refine Sat.callF hS (lRight g1 c1 g2 c2 ⟨M, halfG n 0, 1, false⟩ _ (hS.cf 5 6 rfl rfl (by decide)) HOK.out) (fun w12 hS => ?_))
        go_ret
        exact ⟨rfl, hS.fr⟩
      | true =>
        by_cases h1 : n = 1
        · have r1 : ((n : Int) == 1) = true := by rw [h1]; rfl
          obtain rfl : wn = 10 := by rw [← hwn]; simp [hk, h1]
          clear hwn hk h1
          go_upto_region 49 with (go_at_call 11; rw [EC.out]; refine cApply hS (gm := g1) (cm := c1) (gh := g2) (ch := c2) (c := ⟨M, halfG n 0, 1, false⟩) (e := m) (hS.cf 2 3 rfl rfl (by decide)) HOK.out HF.out HD.out ?_; rintro ⟨g5, c5, g6, c6⟩ w10 hS; dsimp only at hS; simp only [cfC, ivV]; clear fs; have fs := hS.says; simp only [says, Ck.say] at fs)
          clear fs
          have hS := hS.new _ rfl #[.slice (some ⟨g5, 0, none⟩) D.M.length c5, .slice (some ⟨g6, 0, none⟩) D.G.length c6, .int .i64 D.lvl, .bool D.fin] 30
          generalize w10.heap.size = dx at *
          generalize w10.alloc (.cells #[.slice (some ⟨g5, 0, none⟩) D.M.length c5, .slice (some ⟨g6, 0, none⟩) D.G.length c6, .int .i64 D.lvl, .bool D.fin] 30) = w11 at *
          have fs := hS.says
          simp only [says, Ck.say] at fs
          go_wp2_with (go_at_call 12; rw [EC.out]; refine Sat.callF hS (lRight g1 c1 g2 c2 ⟨M, halfG n 0, 1, false⟩ _ (hS.cf 5 6 rfl rfl (by decide)) HOK.out) (fun w12 hS => ?_))
          go_ret
          exact ⟨rfl, hS.fr⟩
        · have r1 : ((n : Int) == 1) = false := by rw [beq_eq_false_iff_ne]; omega
          obtain rfl : wn = 0 := by rw [← hwn]; simp [hk, h1]
          clear hwn hk h1
          go_upto_region 49 with (go_at_call 11; rw [EC.out]; refine cApply hS (gm := g1) (cm := c1) (gh := g2) (ch := c2) (c := ⟨M, halfG n 0, 1, false⟩) (e := m) (hS.cf 2 3 rfl rfl (by decide)) HOK.out HF.out HD.out ?_; rintro ⟨g5, c5, g6, c6⟩ w10 hS; dsimp only at hS; simp only [cfC, ivV]; clear fs; have fs := hS.says; simp only [says, Ck.say] at fs)
          clear fs
          have hS := hS.new _ rfl #[.slice (some ⟨g5, 0, none⟩) D.M.length c5, .slice (some ⟨g6, 0, none⟩) D.G.length c6, .int .i64 D.lvl, .bool D.fin] 30
          generalize w10.heap.size = dx at *
          generalize w10.alloc (.cells #[.slice (some ⟨g5, 0, none⟩) D.M.length c5, .slice (some ⟨g6, 0, none⟩) D.G.length c6, .int .i64 D.lvl, .bool D.fin] 30) = w11 at *
          have fs := hS.says
          simp only [says, Ck.say] at fs
          go_wp2_with (go_at_call 12; rw [EC.out]; refine Sat.callF hS (lRight g1 c1 g2 c2 ⟨M, halfG n 0, 1, false⟩ _ (hS.cf 5 6 rfl rfl (by decide)) HOK.out) (fun w12 hS => ?_))
          go_ret
          exact ⟨rfl, hS.fr⟩
    · have q5 : (m.kind == 5) = false := by rw [hk]; rfl
      have q6 : (m.kind == 6) = false := by rw [hk]; rfl
      have q7 : (m.kind == 7) = true := by rw [hk]; rfl
      have q8 : (m.kind == 8) = false := by rw [hk]; rfl
      have q9 : (m.kind == 9) = false := by rw [hk]; rfl
      have q10 : (m.kind == 10) = false := by rw [hk]; rfl
      cases has with
      | false =>
        obtain rfl : wn = 6 := by rw [← hwn]; simp [hk]
        clear hwn hk
        go_upto_region 49 with (go_at_call 11; rw [EC.out]; refine cApply hS (gm := g1) (cm := c1) (gh := g2) (ch := c2) (c := ⟨M, halfG n 0, 1, false⟩) (e := m) (hS.cf 2 3 rfl rfl (by decide)) HOK.out HF.out HD.out ?_; rintro ⟨g5, c5, g6, c6⟩ w10 hS; dsimp only at hS; simp only [cfC, ivV]; clear fs; have fs := hS.says; simp only [says, Ck.say] at fs)
        clear fs
        have hS := hS.new _ rfl #[.slice (some ⟨g5, 0, none⟩) D.M.length c5, .slice (some ⟨g6, 0, none⟩) D.G.length c6, .int .i64 D.lvl, .bool D.fin] 30
        generalize w10.heap.size = dx at *
        generalize w10.alloc (.cells #[.slice (some ⟨g5, 0, none⟩) D.M.length c5, .slice (some ⟨g6, 0, none⟩) D.G.length c6, .int .i64 D.lvl, .bool D.fin] 30) = w11 at *
        have fs := hS.says
        simp only [says, Ck.say] at fs
        go_wp2_with (go_at_call 12; rw [EC.out]; refine Sat.callF hS (lRight g1 c1 g2 c2 ⟨M, halfG n 0, 1, false⟩ _ (hS.cf 5 6 rfl rfl (by decide)) HOK.out) (fun w12 hS => ?_))
        go_ret
        exact ⟨rfl, hS.fr⟩
      | true =>
        obtain rfl : wn = 0 := by rw [← hwn]; simp [hk]
        clear hwn hk
        go_upto_region 49 with (go_at_call 11; rw [EC.out]; refine cApply hS (gm := g1) (cm := c1) (gh := g2) (ch := c2) (c := ⟨M, halfG n 0, 1, false⟩) (e := m) (hS.cf 2 3 rfl rfl (by decide)) HOK.out HF.out HD.out ?_; rintro ⟨g5, c5, g6, c6⟩ w10 hS; dsimp only at hS; simp only [cfC, ivV]; clear fs; have fs := hS.says; simp only [says, Ck.say] at fs)
        clear fs
        have hS := hS.new _ rfl #[.slice (some ⟨g5, 0, none⟩) D.M.length c5, .slice (some ⟨g6, 0, none⟩) D.G.length c6, .int .i64 D.lvl, .bool D.fin] 30
        generalize w10.heap.size = dx at *
        generalize w10.alloc (.cells #[.slice (some ⟨g5, 0, none⟩) D.M.length c5, .slice (some ⟨g6, 0, none⟩) D.G.length c6, .int .i64 D.lvl, .bool D.fin] 30) = w11 at *
        have fs := hS.says
        simp only [says, Ck.say] at fs
        go_wp2_with (go_at_call 12; rw [EC.out]; refine Sat.callF hS (lRight g1 c1 g2 c2 ⟨M, halfG n 0, 1, false⟩ _ (hS.cf 5 6 rfl rfl (by decide)) HOK.out) (fun w12 hS => ?_))
        go_ret
        exact ⟨rfl, hS.fr⟩
    · have q5 : (m.kind == 5) = false := by rw [hk]; rfl
      have q6 : (m.kind == 6) = false := by rw [hk]; rfl
      have q7 : (m.kind == 7) = false := by rw [hk]; rfl
      have q8 : (m.kind == 8) = true := by rw [hk]; rfl
      have q9 : (m.kind == 9) = false := by rw [hk]; rfl
      have q10 : (m.kind == 10) = false := by rw [hk]; rfl
      obtain rfl : wn = 8 := by rw [← hwn]; simp [hk]
      clear hwn hk
      go_upto_region 49 with (go_at_call 11; rw [EC.out]; refine cApply hS (gm := g1) (cm := c1) (gh := g2) (ch := c2) (c := ⟨M, halfG n 0, 1, false⟩) (e := m) (hS.cf 2 3 rfl rfl (by decide)) HOK.out HF.out HD.out ?_; rintro ⟨g5, c5, g6, c6⟩ w10 hS; dsimp only at hS; simp only [cfC, ivV]; clear fs; have fs := hS.says; simp only [says, Ck.say] at fs)
      clear fs
      have hS := hS.new _ rfl #[.slice (some ⟨g5, 0, none⟩) D.M.length c5, .slice (some ⟨g6, 0, none⟩) D.G.length c6, .int .i64 D.lvl, .bool D.fin] 30
      generalize w10.heap.size = dx at *
      generalize w10.alloc (.cells #[.slice (some ⟨g5, 0, none⟩) D.M.length c5, .slice (some ⟨g6, 0, none⟩) D.G.length c6, .int .i64 D.lvl, .bool D.fin] 30) = w11 at *
      have fs := hS.says
      simp only [says, Ck.say] at fs
      go_wp2_with (go_at_call 12; rw [EC.out]; refine Sat.callF hS (lRight g1 c1 g2 c2 ⟨M, halfG n 0, 1, false⟩ _ (hS.cf 5 6 rfl rfl (by decide)) HOK.out) (fun w12 hS => ?_))
      go_ret
      exact ⟨rfl, hS.fr⟩
    · have q5 : (m.kind == 5) = false := by rw [hk]; rfl
      have q6 : (m.kind == 6) = false := by rw [hk]; rfl
      have q7 : (m.kind == 7) = false := by rw [hk]; rfl
      have q8 : (m.kind == 8) = false := by rw [hk]; rfl
      have q9 : (m.kind == 9) = true := by rw [hk]; rfl
      have q10 : (m.kind == 10) = false := by rw [hk]; rfl
      obtain rfl : wn = 10 := by rw [← hwn]; simp [hk]
      clear hwn hk
      go_upto_region 49 with (go_at_call 11; rw [EC.out]; refine cApply hS (gm := g1) (cm := c1) (gh := g2) (ch := c2) (c := ⟨M, halfG n 0, 1, false⟩) (e := m) (hS.cf 2 3 rfl rfl (by decide)) HOK.out HF.out HD.out ?_; rintro ⟨g5, c5, g6, c6⟩ w10 hS; dsimp only at hS; simp only [cfC, ivV]; clear fs; have fs := hS.says; simp only [says, Ck.say] at fs)
      clear fs
      have hS := hS.new _ rfl #[.slice (some ⟨g5, 0, none⟩) D.M.length c5, .slice (some ⟨g6, 0, none⟩) D.G.length c6, .int .i64 D.lvl, .bool D.fin] 30
      generalize w10.heap.size = dx at *
      generalize w10.alloc (.cells #[.slice (some ⟨g5, 0, none⟩) D.M.length c5, .slice (some ⟨g6, 0, none⟩) D.G.length c6, .int .i64 D.lvl, .bool D.fin] 30) = w11 at *
      have fs := hS.says
      simp only [says, Ck.say] at fs
      go_wp2_with (go_at_call 12; rw [EC.out]; refine Sat.callF hS (lRight g1 c1 g2 c2 ⟨M, halfG n 0, 1, false⟩ _ (hS.cf 5 6 rfl rfl (by decide)) HOK.out) (fun w12 hS => ?_))
      go_ret
      exact ⟨rfl, hS.fr⟩
    · have q5 : (m.kind == 5) = false := by rw [hk]; rfl
      have q6 : (m.kind == 6) = false := by rw [hk]; rfl
      have q7 : (m.kind == 7) = false := by rw [hk]; rfl
      have q8 : (m.kind == 8) = false := by rw [hk]; rfl
      have q9 : (m.kind == 9) = false := by rw [hk]; rfl
      have q10 : (m.kind == 10) = true := by rw [hk]; rfl
      obtain rfl : wn = 8 := by rw [← hwn]; simp [hk]
      clear hwn hk
      go_upto_region 49 with (go_at_call 11; rw [EC.out]; refine cApply hS (gm := g1) (cm := c1) (gh := g2) (ch := c2) (c := ⟨M, halfG n 0, 1, false⟩) (e := m) (hS.cf 2 3 rfl rfl (by decide)) HOK.out HF.out HD.out ?_; rintro ⟨g5, c5, g6, c6⟩ w10 hS; dsimp only at hS; simp only [cfC, ivV]; clear fs; have fs := hS.says; simp only [says, Ck.say] at fs)
      clear fs
      have hS := hS.new _ rfl #[.slice (some ⟨g5, 0, none⟩) D.M.length c5, .slice (some ⟨g6, 0, none⟩) D.G.length c6, .int .i64 D.lvl, .bool D.fin] 30
      generalize w10.heap.size = dx at *
      generalize w10.alloc (.cells #[.slice (some ⟨g5, 0, none⟩) D.M.length c5, .slice (some ⟨g6, 0, none⟩) D.G.length c6, .int .i64 D.lvl, .bool D.fin] 30) = w11 at *
      have fs := hS.says
      simp only [says, Ck.say] at fs
      go_wp2_with (go_at_call 12; rw [EC.out]; refine Sat.callF hS (lRight g1 c1 g2 c2 ⟨M, halfG n 0, 1, false⟩ _ (hS.cf 5 6 rfl rfl (by decide)) HOK.out) (fun w12 hS => ?_))
      go_ret
      exact ⟨rfl, hS.fr⟩
    · have q5 : (m.kind == 5) = false := by rw [beq_eq_false_iff_ne]; exact n5
      have q6 : (m.kind == 6) = false := by rw [beq_eq_false_iff_ne]; exact n6
      have q7 : (m.kind == 7) = false := by rw [beq_eq_false_iff_ne]; exact n7
      have q8 : (m.kind == 8) = false := by rw [beq_eq_false_iff_ne]; exact n8
      have q9 : (m.kind == 9) = false := by rw [beq_eq_false_iff_ne]; exact n9
      have q10 : (m.kind == 10) = false := by rw [beq_eq_false_iff_ne]; exact n10
      obtain rfl : wn = 0 := by rw [← hwn]; simp [n5, n6, n7, n8, n9, n10]
      clear hwn n5 n6 n7 n8 n9 n10
      go_upto_region 49 with (go_at_call 11; rw [EC.out]; refine cApply hS (gm := g1) (cm := c1) (gh := g2) (ch := c2) (c := ⟨M, halfG n 0, 1, false⟩) (e := m) (hS.cf 2 3 rfl rfl (by decide)) HOK.out HF.out HD.out ?_; rintro ⟨g5, c5, g6, c6⟩ w10 hS; dsimp only at hS; simp only [cfC, ivV]; clear fs; have fs := hS.says; simp only [says, Ck.say] at fs)
      clear fs
      have hS := hS.new _ rfl #[.slice (some ⟨g5, 0, none⟩) D.M.length c5, .slice (some ⟨g6, 0, none⟩) D.G.length c6, .int .i64 D.lvl, .bool D.fin] 30
      generalize w10.heap.size = dx at *
      generalize w10.alloc (.cells #[.slice (some ⟨g5, 0, none⟩) D.M.length c5, .slice (some ⟨g6, 0, none⟩) D.G.length c6, .int .i64 D.lvl, .bool D.fin] 30) = w11 at *
      have fs := hS.says
      simp only [says, Ck.say] at fs
      go_wp2_with (go_at_call 12; rw [EC.out]; refine Sat.callF hS (lRight g1 c1 g2 c2 ⟨M, halfG n 0, 1, false⟩ _ (hS.cf 5 6 rfl rfl (by decide)) HOK.out) (fun w12 hS => ?_))
      go_ret
      exact ⟨rfl, hS.fr⟩
end Go.Proofs.YtnnpjjehecbljaaGreatDoor

namespace Go.Proofs.YtnnpjjehecbljaaGreatDoor
open Go.RowKit

theorem lAnswers (b : Int) (h : 0 ≤ b ∧ b ≤ 255) (up fin : Bool) (e0 : Ent) (q : Bool) (he : e0.Fits) (w : World) :
    Calls Tryz.prog 3 #[.int .u8 b, .bool up, .bool fin, .agg #[.int .u64 e0.term, .int .u64 e0.index, .int .i64 e0.kind, .int .u64 e0.client, .int .u64 e0.seq, .int .u64 e0.block, .int .u64 e0.many, .int .i64 e0.node, .int .i64 e0.level, .string e0.data, .string e0.old, .bool q]] w fun e w' => e = .returned (.bool true) ∧ Fr [] w w' := by
  have := lAnsN b.toNat (by omega) up fin e0 q he w
  rwa [show ((b.toNat : Nat) : Int) = b by omega] at this
end Go.Proofs.YtnnpjjehecbljaaGreatDoor

namespace Go.Proofs.YtnnpjjehecbljaaGreatDoor
open Go.ChangeShapes Go.WideShapes Go.RowKit

/-- What the rows list. -/
def laidL : List (String × DataW Unit) := [("math/bits.deBruijn32tab", Rows.laid_math_bits_deBruijn32tab), ("math/bits.deBruijn64tab", Rows.laid_math_bits_deBruijn64tab), ("internal/strconv.uint64pow10", Rows.laid_internal_strconv_uint64pow10)]
end Go.Proofs.YtnnpjjehecbljaaGreatDoor

namespace Go.Proofs.YtnnpjjehecbljaaGreatDoor
open Go.ChangeShapes Go.WideShapes Go.RowKit Go.Deep
set_option maxRecDepth 100000

section
variable {H : Type} {enc : TypeId × Value → H} {w : World} {base : Nat} {spare : Nat → Bool} {held : Bool}

theorem one_u64 (hc : Tryz.prog.cellsOf 22 = 1) {n : Nat} {L : List Value} {v : Value} (hL : L.take 1 = [v]) {y : Option (DataW H × List MemPlace)} (hy : ∃ z, y = some z) (h : DataW.trod enc Tryz.prog w base spare held n 22 (List.take (Tryz.prog.cellsOf 22) L) = y) : ∃ x : Int, v = .int .u64 x ∧ U64 x := by
  obtain ⟨z, rfl⟩ := hy
  rw [hc, hL] at h
  obtain ⟨x, e, -, wf⟩ := DataW.trod_int Tryz.underlying22 h
  simp at e
  have := bounds_u64 wf
  exact ⟨x, e, by unfold U64; omega⟩
theorem one_i64 (hc : Tryz.prog.cellsOf 3 = 1) {n : Nat} {L : List Value} {v : Value} (hL : L.take 1 = [v]) {y : Option (DataW H × List MemPlace)} (hy : ∃ z, y = some z) (h : DataW.trod enc Tryz.prog w base spare held n 3 (List.take (Tryz.prog.cellsOf 3) L) = y) : ∃ x : Int, v = .int .i64 x ∧ -9223372036854775808 ≤ x ∧ x ≤ 9223372036854775807 := by
  obtain ⟨z, rfl⟩ := hy
  rw [hc, hL] at h
  obtain ⟨x, e, -, wf⟩ := DataW.trod_int Tryz.underlying3 h
  simp at e
  exact ⟨x, e, bounds_i64 wf⟩
theorem one_str (hc : Tryz.prog.cellsOf 9 = 1) {n : Nat} {L : List Value} {v : Value} (hL : L.take 1 = [v]) {y : Option (DataW H × List MemPlace)} (hy : ∃ z, y = some z) (h : DataW.trod enc Tryz.prog w base spare held n 9 (List.take (Tryz.prog.cellsOf 9) L) = y) : ∃ x : ByteArray, v = .string x ∧ x.size ≤ maxLen := by
  obtain ⟨z, rfl⟩ := hy
  rw [hc, hL] at h
  obtain ⟨x, e, -, wf⟩ := DataW.trod_string Tryz.underlying9 h
  simp at e
  exact ⟨x, e, wf⟩
theorem one_bool (hc : Tryz.prog.cellsOf 4 = 1) {n : Nat} {L : List Value} {v : Value} (hL : L.take 1 = [v]) {y : Option (DataW H × List MemPlace)} (hy : ∃ z, y = some z) (h : DataW.trod enc Tryz.prog w base spare held n 4 (List.take (Tryz.prog.cellsOf 4) L) = y) : ∃ x : Bool, v = .bool x := by
  obtain ⟨z, rfl⟩ := hy
  rw [hc, hL] at h
  obtain ⟨x, e, -⟩ := DataW.trod_bool Tryz.underlying4 h
  simp at e
  exact ⟨x, e⟩
theorem c_u64 : Tryz.prog.cellsOf 22 = 1 := by kernel_rfl
theorem c_i64 : Tryz.prog.cellsOf 3 = 1 := by kernel_rfl
theorem c_str : Tryz.prog.cellsOf 9 = 1 := by kernel_rfl
theorem c_bool : Tryz.prog.cellsOf 4 = 1 := by kernel_rfl
theorem c_ent : Tryz.prog.cellsOf 24 = 11 := by kernel_rfl
theorem c_made : Tryz.prog.cellsOf 26 = 12 := by kernel_rfl
theorem c_mades : Tryz.prog.cellsOf 41 = 1 := by kernel_rfl

theorem some_at {α : Type} {xs : List α} {n i : Nat} (h : xs.length = n) (hi : i < n) : ∃ z, xs[i]? = some z := ⟨_, List.getElem?_eq_getElem (by omega)⟩

theorem ent_of {n : Nat} {cs : List Value} {y : DataW H × List MemPlace} (h : DataW.trod enc Tryz.prog w base spare held n 24 cs = some y) : ∃ e : Ent, e.Fits ∧ cs = e.cells.toList := by
  obtain ⟨xs, m, _, _, hlen, hx, hf⟩ := DataW.trod_struct Tryz.underlying24 h
  rw [c_ent] at hlen
  have hx' : xs.length = 11 := hx
  match cs, hlen with
  | [c0, c1, c2, c3, c4, c5, c6, c7, c8, c9, c10], _ =>
    obtain ⟨t, rfl, ft⟩ := one_u64 c_u64 (L := ([c0, c1, c2, c3, c4, c5, c6, c7, c8, c9, c10] : List Value)) (v := c0) rfl (some_at hx' (i := 0) (by decide)) (hf 0 _ rfl)
    obtain ⟨ix, rfl, fi⟩ := one_u64 c_u64 (L := ([c1, c2, c3, c4, c5, c6, c7, c8, c9, c10] : List Value)) (v := c1) rfl (some_at hx' (i := 1) (by decide)) (hf 1 _ rfl)
    obtain ⟨k, rfl, fk⟩ := one_i64 c_i64 (L := ([c2, c3, c4, c5, c6, c7, c8, c9, c10] : List Value)) (v := c2) rfl (some_at hx' (i := 2) (by decide)) (hf 2 _ rfl)
    obtain ⟨cl, rfl, fcl⟩ := one_u64 c_u64 (L := ([c3, c4, c5, c6, c7, c8, c9, c10] : List Value)) (v := c3) rfl (some_at hx' (i := 3) (by decide)) (hf 3 _ rfl)
    obtain ⟨sq, rfl, fsq⟩ := one_u64 c_u64 (L := ([c4, c5, c6, c7, c8, c9, c10] : List Value)) (v := c4) rfl (some_at hx' (i := 4) (by decide)) (hf 4 _ rfl)
    obtain ⟨bl, rfl, fbl⟩ := one_u64 c_u64 (L := ([c5, c6, c7, c8, c9, c10] : List Value)) (v := c5) rfl (some_at hx' (i := 5) (by decide)) (hf 5 _ rfl)
    obtain ⟨mn, rfl, fmn⟩ := one_u64 c_u64 (L := ([c6, c7, c8, c9, c10] : List Value)) (v := c6) rfl (some_at hx' (i := 6) (by decide)) (hf 6 _ rfl)
    obtain ⟨nd, rfl, fnd⟩ := one_i64 c_i64 (L := ([c7, c8, c9, c10] : List Value)) (v := c7) rfl (some_at hx' (i := 7) (by decide)) (hf 7 _ rfl)
    obtain ⟨lv, rfl, flv⟩ := one_i64 c_i64 (L := ([c8, c9, c10] : List Value)) (v := c8) rfl (some_at hx' (i := 8) (by decide)) (hf 8 _ rfl)
    obtain ⟨da, rfl, fda⟩ := one_str c_str (L := ([c9, c10] : List Value)) (v := c9) rfl (some_at hx' (i := 9) (by decide)) (hf 9 _ rfl)
    obtain ⟨ol, rfl, fol⟩ := one_str c_str (L := ([c10] : List Value)) (v := c10) rfl (some_at hx' (i := 10) (by decide)) (hf 10 _ rfl)
    exact ⟨⟨t, ix, k, cl, sq, bl, mn, nd, lv, da, ol⟩, ⟨ft, fi, fcl, fsq, fbl, fmn, fda, fol⟩, rfl⟩

theorem made_of {n : Nat} {cs : List Value} {y : DataW H × List MemPlace} (h : DataW.trod enc Tryz.prog w base spare held n 26 cs = some y) : ∃ (e : Ent) (q : Bool), e.Fits ∧ cs = e.cells.toList ++ [.bool q] := by
  obtain ⟨xs, m, _, _, hlen, hx, hf⟩ := DataW.trod_struct Tryz.underlying26 h
  rw [c_made] at hlen
  have hx' : xs.length = 2 := hx
  match cs, hlen with
  | [c0, c1, c2, c3, c4, c5, c6, c7, c8, c9, c10, c11], _ =>
    obtain ⟨z, hz⟩ := some_at hx' (i := 0) (by decide)
    have h0 : DataW.trod enc Tryz.prog w base spare held m 24 (List.take (Tryz.prog.cellsOf 24) [c0, c1, c2, c3, c4, c5, c6, c7, c8, c9, c10, c11]) = xs[0]? := hf 0 _ rfl
    rw [hz, c_ent] at h0
    obtain ⟨e, fe, he⟩ := ent_of h0
    obtain ⟨q, rfl⟩ := one_bool c_bool (L := ([c11] : List Value)) (v := c11) rfl (some_at hx' (i := 1) (by decide)) (hf 1 _ rfl)
    refine ⟨e, q, fe, ?_⟩
    rw [← he]
    rfl

/-- A list of what is there at each place. -/
theorem list_of {α : Type} {p : Nat → α → Prop} : ∀ {n : Nat}, (∀ i, i < n → ∃ x, p i x) → ∃ l : List α, l.length = n ∧ ∀ i (hi : i < l.length), p i l[i] := by
  intro n
  induction n with
  | zero => intro _; exact ⟨[], rfl, fun i hi => by simp at hi⟩
  | succ n ih =>
    intro h
    obtain ⟨l, h1, h2⟩ := ih (fun i hi => h i (by omega))
    obtain ⟨x, hx⟩ := h n (by omega)
    refine ⟨l ++ [x], by simp [h1], fun i hi => ?_⟩
    rw [List.getElem_append]
    split
    · rename_i h3; exact h2 i h3
    · rename_i h3
      have : i = n := by simp at hi; omega
      subst this
      simpa [h1] using hx

theorem add_plain (b o k : Nat) : (⟨b, o, none⟩ : Addr).add k = ⟨b, o + k, none⟩ := by
  unfold Addr.add
  split
  · rename_i h; subst h; rfl
  · rfl
theorem addr_plain {a : Addr} {v : Value} (h : w.cell? a = some v) : ∃ b o, a = ⟨b, o, none⟩ := by
  obtain ⟨b, o, sp⟩ := a
  cases sp with
  | none => exact ⟨b, o, rfl⟩
  | some z =>
    exfalso
    unfold World.cell? at h
    split at h <;> simp at h


theorem mades_of {n : Nat} {cs : List Value} {y : DataW H × List MemPlace} (h : DataW.trod enc Tryz.prog w base spare held n 41 cs = some y) :
    ∃ (a : Option Addr) (len cap : Nat) (l : List Ent), cs = [.slice a len cap] ∧ len ≤ maxLen ∧ Mrow w a len l := by
  rcases open_slice Tryz.underlying41 h with h0 | ⟨a, len, cap, m, n', D, Pl, hcs, hb, hl, hm, hmm, hx, hi⟩
  · exact ⟨none, 0, 0, [], h0.1, by unfold maxLen; omega, rfl, fun e he => (by cases he), .inl rfl⟩
  · have hlm : len ≤ m := by rw [hmm]; split <;> omega
    obtain ⟨l, hll, hlp⟩ := list_of (p := fun i (e : Ent) => e.Fits ∧ (∀ j, j < 11 → w.cell? (a.add (i * 12 + j)) = e.cells[j]?) ∧ ∃ q, w.cell? (a.add (i * 12 + 11)) = some (.bool q)) (n := len) (fun i hil => by
      obtain ⟨cs', hc, ht'⟩ := hi i (by omega)
      rw [c_made] at hc
      obtain ⟨e, q, fe, rfl⟩ := made_of ht'
      obtain ⟨_, _, hat⟩ := World.cells?_some hc
      have h11 : e.cells.toList.length = 11 := rfl
      refine ⟨e, fe, fun j hj => ?_, q, ?_⟩
      · have := hat j (by omega)
        rw [Go.Deep.add_add] at this
        rw [this, List.getElem?_append_left (by omega)]
        simp
      · have := hat 11 (by omega)
        rw [Go.Deep.add_add] at this
        rw [this, List.getElem?_append_right (by omega), h11]
        rfl)
    have hfit : ∀ e, e ∈ l → e.Fits := fun e he => by
      obtain ⟨i, hi', rfl⟩ := List.getElem_of_mem he
      exact (hlp i hi').1
    refine ⟨some a, len, cap, l, hcs, by omega, hll, hfit, ?_⟩
    rcases Nat.eq_zero_or_pos len with h0 | h0
    · exact .inl h0
    · have h1 := (hlp 0 (by omega)).2.1 0 (by decide)
      have h2 : (l[0]'(by omega)).cells[0]? = some (.int .u64 (l[0]'(by omega)).term) := rfl
      rw [h2] at h1
      have h3 : a.add (0 * 12 + 0) = a := rfl
      rw [h3] at h1
      obtain ⟨b, o, rfl⟩ := addr_plain h1
      refine .inr ⟨b, o, rfl, fun j hj => ⟨fun i hi' => ?_, ?_⟩⟩
      · have := (hlp j hj).2.1 i hi'
        rw [add_plain] at this
        rw [Nat.add_assoc]
        exact this
      · obtain ⟨q, hq⟩ := (hlp j hj).2.2
        rw [add_plain] at hq
        exact ⟨q, by rw [Nat.add_assoc]; exact hq⟩


end
end Go.Proofs.YtnnpjjehecbljaaGreatDoor

namespace Go.Proofs.YtnnpjjehecbljaaGreatDoor
open Go.ChangeShapes Go.WideShapes Go.RowKit Go.Deep
set_option maxRecDepth 100000

theorem made_arg {H : Type} {enc : TypeId × Value → H} {w : World} {base : Nat} {spare : Nat → Bool} {held : Bool} {r : Reach} {b0 : Nat} {v : Value} {d : DataW H} {p : List MemPlace} (hv : Value.okWide Tryz.prog w r b0 26 v) (h : DataW.Trod enc Tryz.prog w base spare held 26 v d p) :
    ∃ (e : Ent) (q : Bool), v = .agg #[.int .u64 e.term, .int .u64 e.index, .int .i64 e.kind, .int .u64 e.client, .int .u64 e.seq, .int .u64 e.block, .int .u64 e.many, .int .i64 e.node, .int .i64 e.level, .string e.data, .string e.old, .bool q] ∧ e.Fits := by
  obtain ⟨cs, rfl, hsz⟩ := okWide_struct Tryz.underlying26 hv
  obtain ⟨cs⟩ := cs
  obtain ⟨fuel, hf0⟩ := h
  have hf1 : DataW.trod enc Tryz.prog w base spare held fuel 26 cs = some (d, p) := hf0
  obtain ⟨e, q, fe, he⟩ := made_of hf1
  exact ⟨e, q, by rw [he]; rfl, fe⟩
end Go.Proofs.YtnnpjjehecbljaaGreatDoor
