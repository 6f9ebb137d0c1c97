/-
  Texts of this seat, joined: FRiB GPlain.
-/
import Derived.Test.YthfaaoeecajkeaaDoorW02
import Derived.StillTailTactics
import Derived.Test.YthfaaoeecajkeaaDoorW00
set_option linter.unusedSimpArgs false
set_option linter.unusedVariables false
namespace Go.Proofs.YthfaaoeecajkeaaDoor
open Go.RowKit

def Ent.flds (e : Ent) : List Fld := [⟨99, decide (0 < e.client) || decide (0 < e.seq), decide (0 < e.client)⟩, ⟨98, decide (0 < e.block), smallB e.block⟩, ⟨109, decide (0 < e.many), smallB e.many⟩,
  ⟨110, e.node != 0, nodeB e.node⟩, ⟨108, e.level != 0, e.level == 1 || e.level == 2⟩, ⟨100, !e.data.toList.isEmpty, decide ((e.data.size : Int) ≤ 64)⟩, ⟨111, !e.old.toList.isEmpty, decide ((e.old.size : Int) ≤ 64)⟩]
def Ent.ok (e : Ent) : Bool := (entMay e.kind).2 && decide (0 < e.term) && decide (0 < e.index) && fitB (entMay e.kind).1 e.flds

theorem entS {w : World} {bx : Nat} {e : Ent} {t : TypeId} (h : Blk w bx #[.int .u64 e.term, .int .u64 e.index, .int .i64 e.kind, .int .u64 e.client, .int .u64 e.seq, .int .u64 e.block, .int .u64 e.many, .int .i64 e.node, .int .i64 e.level, .string e.data, .string e.old] t) :
    w.cell? ⟨bx, 0, none⟩ = some (.int .u64 e.term) ∧ w.cell? ⟨bx, 1, none⟩ = some (.int .u64 e.index) ∧ w.cell? ⟨bx, 3, none⟩ = some (.int .u64 e.client) ∧ w.cell? ⟨bx, 4, none⟩ = some (.int .u64 e.seq) ∧ w.cell? ⟨bx, 5, none⟩ = some (.int .u64 e.block) ∧ w.cell? ⟨bx, 6, none⟩ = some (.int .u64 e.many) ∧ w.cell? ⟨bx, 7, none⟩ = some (.int .i64 e.node) ∧ w.cell? ⟨bx, 8, none⟩ = some (.int .i64 e.level) ∧ w.cell? ⟨bx, 9, none⟩ = some (.string e.data) ∧ w.cell? ⟨bx, 10, none⟩ = some (.string e.old) :=
  ⟨h.cellAt (i := 0) rfl, h.cellAt (i := 1) rfl, h.cellAt (i := 3) rfl, h.cellAt (i := 4) rfl, h.cellAt (i := 5) rfl, h.cellAt (i := 6) rfl, h.cellAt (i := 7) rfl, h.cellAt (i := 8) rfl, h.cellAt (i := 9) rfl, h.cellAt (i := 10) rfl⟩

end Go.Proofs.YthfaaoeecajkeaaDoor

namespace Go.Proofs.YthfaaoeecajkeaaDoor
open Go.RowKit

/-! ### numbers of eight bytes -/
theorem fixL_eight (n : Nat) : fixL n 8 = [UInt8.ofNat (n / 72057594037927936 % 256), UInt8.ofNat (n / 281474976710656 % 256), UInt8.ofNat (n / 1099511627776 % 256), UInt8.ofNat (n / 4294967296 % 256), UInt8.ofNat (n / 16777216 % 256), UInt8.ofNat (n / 65536 % 256), UInt8.ofNat (n / 256 % 256), UInt8.ofNat (n % 256)] := by
  have e : List.drop (8 - 8) (List.range 8) = [0, 1, 2, 3, 4, 5, 6, 7] := rfl
  have h0 : fixB (n : Int) 0 = ((n / 72057594037927936 % 256 : Nat) : Int) := by unfold fixB; simp
  have h1 : fixB (n : Int) 1 = ((n / 281474976710656 % 256 : Nat) : Int) := by unfold fixB; simp
  have h2 : fixB (n : Int) 2 = ((n / 1099511627776 % 256 : Nat) : Int) := by unfold fixB; simp
  have h3 : fixB (n : Int) 3 = ((n / 4294967296 % 256 : Nat) : Int) := by unfold fixB; simp
  have h4 : fixB (n : Int) 4 = ((n / 16777216 % 256 : Nat) : Int) := by unfold fixB; simp
  have h5 : fixB (n : Int) 5 = ((n / 65536 % 256 : Nat) : Int) := by unfold fixB; simp
  have h6 : fixB (n : Int) 6 = ((n / 256 % 256 : Nat) : Int) := by unfold fixB; simp
  have h7 : fixB (n : Int) 7 = ((n % 256 : Nat) : Int) := by unfold fixB; simp
  unfold fixL
  rw [e]
  simp only [List.map_cons, List.map_nil, h0, h1, h2, h3, h4, h5, h6, h7, Int.toNat_natCast]

theorem beNum_eight (a b c d e f g h : UInt8) : beNum 0 [a, b, c, d, e, f, g, h] = a.toNat * 72057594037927936 + b.toNat * 281474976710656 + c.toNat * 1099511627776 + d.toNat * 4294967296 + e.toNat * 16777216 + f.toNat * 65536 + g.toNat * 256 + h.toNat := by
  have := a.toNat_lt; have := b.toNat_lt; have := c.toNat_lt; have := d.toNat_lt; have := e.toNat_lt; have := f.toNat_lt; have := g.toNat_lt; have := h.toNat_lt
  simp only [beNum, List.foldl_cons, List.foldl_nil]
  have s : ∀ (x y : Nat) (c : UInt8), x < y → y ≤ 72057594037927936 → beStep x c = x * 256 + c.toNat := fun x y c h1 h2 => by
    have := c.toNat_lt
    unfold beStep; omega
  rw [s 0 1 a (by omega) (by omega), s (0 * 256 + a.toNat) 256 b (by omega) (by omega), s _ 65536 c (by omega) (by omega), s _ 16777216 d (by omega) (by omega), s _ 4294967296 e (by omega) (by omega), s _ 1099511627776 f (by omega) (by omega), s _ 281474976710656 g (by omega) (by omega), s _ 72057594037927936 h (by omega) (by omega)]
  omega

theorem beNum_fix8 (n : Nat) (h : n < 18446744073709551616) : beNum 0 (fixL n 8) = n := by
  rw [fixL_eight, beNum_eight]
  simp
  omega

theorem fix8_beNum (l : List UInt8) (h : l.length = 8) : fixL (beNum 0 l : Nat) 8 = l := by
  match l, h with
  | [a, b, c, d, e, f, g, i], _ =>
    have ha := a.toNat_lt; have hb := b.toNat_lt; have hc := c.toNat_lt; have hd := d.toNat_lt; have he := e.toNat_lt; have hf := f.toNat_lt; have hg := g.toNat_lt; have hi := i.toNat_lt
    rw [beNum_eight, fixL_eight]
    obtain ⟨N, hN⟩ : ∃ N, a.toNat * 72057594037927936 + b.toNat * 281474976710656 + c.toNat * 1099511627776 + d.toNat * 4294967296 + e.toNat * 16777216 + f.toNat * 65536 + g.toNat * 256 + i.toNat = N := ⟨_, rfl⟩
    rw [hN]
    have h0 : N / 72057594037927936 % 256 = a.toNat := by omega
    have h1 : N / 281474976710656 % 256 = b.toNat := by omega
    have h2 : N / 1099511627776 % 256 = c.toNat := by omega
    have h3 : N / 4294967296 % 256 = d.toNat := by omega
    have h4 : N / 16777216 % 256 = e.toNat := by omega
    have h5 : N / 65536 % 256 = f.toNat := by omega
    have h6 : N / 256 % 256 = g.toNat := by omega
    have h7 : N % 256 = i.toNat := by omega
    rw [h0, h1, h2, h3, h4, h5, h6, h7]
    simp

theorem fix1_beNum (l : List UInt8) (h : l.length = 1) : fixL (beNum 0 l : Nat) 1 = l := by
  match l, h with
  | [a], _ =>
    have ha := a.toNat_lt
    rw [beNum_one', fixL_one _ ha]
    simp
theorem beNum_fix1 (n : Nat) (h : n < 256) : beNum 0 (fixL n 1) = n := by
  rw [fixL_one n h, beNum_one']
  simp
  omega

/-! ### an entry's bytes -/
def seg (l : List UInt8) (o k : Nat) : List UInt8 := (l.drop o).take k
def num (l : List UInt8) (o k : Nat) : Int := ((beNum 0 (seg l o k) : Nat) : Int)
def put5 (e : Ent) : List UInt8 :=
  fixL e.kind 1 ++ (fixL e.term 8 ++ (fixL e.index 8 ++ (fixL e.client 8 ++ (fixL e.seq 8 ++ (fixL e.block 4 ++ (fixL e.many 4 ++ (fixL e.node 1 ++ (fixL e.level 1 ++ (fixL (e.data.size : Nat) 1 ++ (e.data.data.toList ++ List.replicate (66 - e.data.size) 0))))))))))
def cut5 (l : List UInt8) : Nat := min (num l 43 1).toNat 66
def ent5 (l : List UInt8) : Ent := ⟨num l 1 8, num l 9 8, num l 0 1, num l 17 8, num l 25 8, num l 33 4, num l 37 4, num l 41 1, num l 42 1, bs ((seg l 44 66).take (cut5 l)), bs []⟩
def pad5 (l : List UInt8) : List UInt8 := (seg l 44 66).drop (cut5 l)
def ent0 : Ent := ⟨0, 0, 0, 0, 0, 0, 0, 0, 0, bs [], bs []⟩

theorem seg_length (l : List UInt8) (o k : Nat) (h : o + k ≤ l.length) : (seg l o k).length = k := by
  unfold seg; rw [List.length_take, List.length_drop]; omega
theorem seg_drop (l : List UInt8) (o k : Nat) : l.drop o = seg l o k ++ l.drop (o + k) := by
  unfold seg
  rw [← List.drop_drop, List.take_append_drop]
theorem seg_take (l : List UInt8) (o k n : Nat) (h : o + k ≤ n) : seg (l.take n) o k = seg l o k := by
  unfold seg
  rw [List.drop_take, List.take_take]
  congr 1
  omega
theorem ent5_take (l : List UInt8) : ent5 (l.take 110) = ent5 l := by
  unfold ent5 cut5 num
  simp only [seg_take l _ _ 110 (show 0 + 1 ≤ 110 by decide), seg_take l _ _ 110 (show 1 + 8 ≤ 110 by decide), seg_take l _ _ 110 (show 9 + 8 ≤ 110 by decide), seg_take l _ _ 110 (show 17 + 8 ≤ 110 by decide), seg_take l _ _ 110 (show 25 + 8 ≤ 110 by decide), seg_take l _ _ 110 (show 33 + 4 ≤ 110 by decide), seg_take l _ _ 110 (show 37 + 4 ≤ 110 by decide), seg_take l _ _ 110 (show 41 + 1 ≤ 110 by decide), seg_take l _ _ 110 (show 42 + 1 ≤ 110 by decide), seg_take l _ _ 110 (show 43 + 1 ≤ 110 by decide), seg_take l _ _ 110 (show 44 + 66 ≤ 110 by decide)]
theorem pad5_take (l : List UInt8) : pad5 (l.take 110) = pad5 l := by
  unfold pad5 cut5 num
  simp only [seg_take l _ _ 110 (show 43 + 1 ≤ 110 by decide), seg_take l _ _ 110 (show 44 + 66 ≤ 110 by decide)]
theorem num_u64 (l : List UInt8) (o k : Nat) : U64 (num l o k) := by
  have := beNum_lt (seg l o k) (n := 0) (by decide)
  unfold U64 num
  omega
theorem num_byte (l : List UInt8) (o : Nat) : 0 ≤ num l o 1 ∧ num l o 1 < 256 := by
  unfold num
  have h : (seg l o 1).length ≤ 1 := by unfold seg; rw [List.length_take]; omega
  match hs : seg l o 1, h with
  | [], _ => simp [beNum]
  | [a], _ =>
    have := a.toNat_lt
    rw [beNum_one']
    omega
theorem ent5_fits (l : List UInt8) : (ent5 l).Fits :=
  ⟨num_u64 l 1 8, num_u64 l 9 8, num_u64 l 17 8, num_u64 l 25 8, num_u64 l 33 4, num_u64 l 37 4, by
    show (bs _).size ≤ maxLen
    have : (seg l 44 66).length ≤ 66 := by unfold seg; rw [List.length_take]; omega
    rw [bs_size, List.length_take]; unfold maxLen; omega, by show (bs _).size ≤ maxLen; rw [bs_size]; exact Nat.zero_le _⟩

/-- The bytes, part by part. -/
theorem segs (l : List UInt8) (h : l.length = 110) : l = seg l 0 1 ++ (seg l 1 8 ++ (seg l 9 8 ++ (seg l 17 8 ++ (seg l 25 8 ++ (seg l 33 4 ++ (seg l 37 4 ++ (seg l 41 1 ++ (seg l 42 1 ++ (seg l 43 1 ++ seg l 44 66))))))))) := by
  have e : seg l 44 66 = l.drop 44 := by
    unfold seg
    exact List.take_of_length_le (by rw [List.length_drop]; omega)
  rw [e, ← seg_drop l 43 1, ← seg_drop l 42 1, ← seg_drop l 41 1, ← seg_drop l 37 4, ← seg_drop l 33 4, ← seg_drop l 25 8, ← seg_drop l 17 8, ← seg_drop l 9 8, ← seg_drop l 1 8, ← seg_drop l 0 1]
  rfl

theorem zeros_iff (l : List UInt8) : l = List.replicate l.length 0 ↔ ∀ x, x ∈ l → x = 0 := by
  constructor
  · intro h x hx
    rw [h] at hx
    exact (List.mem_replicate.1 hx).2
  · intro h
    exact List.eq_replicate_iff.2 ⟨rfl, h⟩

theorem put5_iff (l : List UInt8) (h : l.length = 110) (hd : (ent5 l).data.size ≤ 64) : put5 (ent5 l) = l ↔ ∀ x, x ∈ pad5 l → x = 0 := by
  have h66 := seg_length l 44 66 (by omega)
  have hn := num_byte l 43
  have hsz : (ent5 l).data.size = cut5 l := by
    show (bs _).size = _
    rw [bs_size, List.length_take, h66]
    unfold cut5; omega
  rw [hsz] at hd
  have hc : (cut5 l : Int) = num l 43 1 := by unfold cut5 at hd ⊢; omega
  have hpl : (pad5 l).length = 66 - cut5 l := by unfold pad5; rw [List.length_drop, h66]
  have hput : put5 (ent5 l) = seg l 0 1 ++ (seg l 1 8 ++ (seg l 9 8 ++ (seg l 17 8 ++ (seg l 25 8 ++ (seg l 33 4 ++ (seg l 37 4 ++ (seg l 41 1 ++ (seg l 42 1 ++ (seg l 43 1 ++ ((seg l 44 66).take (cut5 l) ++ List.replicate (66 - cut5 l) 0)))))))))) := by
    unfold put5
    rw [hsz, hc]
    show fixL (num l 0 1) 1 ++ (fixL (num l 1 8) 8 ++ (fixL (num l 9 8) 8 ++ (fixL (num l 17 8) 8 ++ (fixL (num l 25 8) 8 ++ (fixL (num l 33 4) 4 ++ (fixL (num l 37 4) 4 ++ (fixL (num l 41 1) 1 ++ (fixL (num l 42 1) 1 ++ (fixL (num l 43 1) 1 ++ ((bs ((seg l 44 66).take (cut5 l))).data.toList ++ List.replicate (66 - cut5 l) 0)))))))))) = _
    rw [bs_list]
    unfold num
    rw [fix1_beNum _ (seg_length l 0 1 (by omega)), fix8_beNum _ (seg_length l 1 8 (by omega)), fix8_beNum _ (seg_length l 9 8 (by omega)), fix8_beNum _ (seg_length l 17 8 (by omega)), fix8_beNum _ (seg_length l 25 8 (by omega)), fix4_beNum _ (seg_length l 33 4 (by omega)), fix4_beNum _ (seg_length l 37 4 (by omega)), fix1_beNum _ (seg_length l 41 1 (by omega)), fix1_beNum _ (seg_length l 42 1 (by omega)), fix1_beNum _ (seg_length l 43 1 (by omega))]
  have hs44 : seg l 44 66 = (seg l 44 66).take (cut5 l) ++ pad5 l := (List.take_append_drop _ _).symm
  rw [hput]
  constructor
  · intro he
    have hl := segs l h
    rw [hs44] at hl
    have he2 := he.trans hl
    simp only [List.append_cancel_left_eq] at he2
    exact (zeros_iff _).1 (by rw [hpl]; exact he2.symm)
  · intro hz
    have := (zeros_iff _).2 hz
    rw [hpl] at this
    rw [← this, ← hs44]
    exact (segs l h).symm

/-! ### what is right has little data -/
theorem ok_data (e : Ent) (h : e.ok = true) : e.data.size ≤ 64 := by
  unfold Ent.ok at h
  simp only [Bool.and_eq_true] at h
  have hf := h.2
  unfold fitB at hf
  simp only [Bool.not_eq_true', List.any_eq_false] at hf
  have hb := hf ⟨100, !e.data.toList.isEmpty, decide ((e.data.size : Int) ≤ 64)⟩ (by simp [Ent.flds])
  unfold Fld.bad at hb
  split at hb
  · simp at hb; omega
  · simp at hb
    rw [Lib.toList_data] at hb
    have : e.data.size = e.data.data.toList.length := rfl
    rw [this, hb]; simp
end Go.Proofs.YthfaaoeecajkeaaDoor
