/-
  Texts of this seat, joined: RNe4 RNote FVar FCrc FCrc2 FVar2 FFix FPut FRef2 FRef2b FFrame FNext FRef7 FNextQ FLaw.
-/
import Derived.Test.YtnnpjjehecbljaaGreatDoorW28
import Derived.Deep.RegionWith
import Derived.Test.YtnnpjjehecbljaaGreatDoorW26
import Derived.Test.YtnnpjjehecbljaaGreatDoorW27
import Derived.Test.YtnnpjjehecbljaaGreatDoorW29
import Derived.Test.YtnnpjjehecbljaaGreatDoorRows
import Derived.Test.YtnnpjjehecbljaaGreatDoorW12
import Derived.KernelRfl
import Derived.RegionTactic
import Derived.ChangeAlike
import Derived.Deep.QuietTactic
import Derived.BigQuiet
import Derived.Deep.RegionHeld3
import Derived.IntWalk
import Derived.Lib.Strings
import Derived.Test.YtnnpjjehecbljaaGreatDoorW00
set_option linter.unusedSimpArgs false
set_option linter.unusedVariables false
namespace Go.Proofs.YtnnpjjehecbljaaGreatDoor
open Go.RowKit

end Go.Proofs.YtnnpjjehecbljaaGreatDoor

namespace Go.Proofs.YtnnpjjehecbljaaGreatDoor
open Go.RowKit

/-- The parts of entries that came in. -/
def Mrow (w : World) (la : Option Addr) (ln : Nat) (l : List Ent) : Prop := l.length = ln ∧ (∀ e, e ∈ l → e.Fits) ∧ (ln = 0 ∨ ∃ lb lo, la = some ⟨lb, lo, none⟩ ∧ Mads w lb lo l)
theorem Mads.fr0 {w w' : World} {b o : Nat} {l : List Ent} (h : Mads w b o l) (f : Fr [] w w') : Mads w' b o l := by
  intro j hj
  obtain ⟨h1, q, h2⟩ := h j hj
  have hb : b < w.heap.size := World.block_lt_of_cell? w _ h2
  have hk2 : ∀ off, w'.cell? ⟨b, off, none⟩ = w.cell? ⟨b, off, none⟩ := fun off => World.cell?_of_block (w := w) (f.block b hb (by simp))
  exact ⟨fun i hi => (hk2 _).trans (h1 i hi), q, (hk2 _).trans h2⟩
theorem Mrow.fr0 {w w' : World} {la : Option Addr} {ln : Nat} {l : List Ent} (h : Mrow w la ln l) (f : Fr [] w w') : Mrow w' la ln l := by
  obtain ⟨h1, h2, h3⟩ := h
  refine ⟨h1, h2, ?_⟩
  rcases h3 with h3 | ⟨lb, lo, e, h3⟩
  · exact .inl h3
  · exact .inr ⟨lb, lo, e, h3.fr0 f⟩

/-- What a message is made of: its parts, and at most ten entries. -/
def noteM (m : Msg) (l : List Ent) : Msg := noteOf m ((l.map madeOf).take 10)

theorem noteOf_none {m : Msg} {L : List Ent} {k : Int} (hk : m.kind % 10 = k) (h : hasI (msgMay (k + 1)).1 101 = false) : (noteOf m L).ents = [] := by
  subst hk
  show (if hasI (msgMay (m.kind % 10 + 1)).1 101 = true then L else []) = []
  rw [h]
  rfl
theorem noteOf_some {m : Msg} {L : List Ent} {k : Int} (hk : m.kind % 10 = k) (h : hasI (msgMay (k + 1)).1 101 = true) : (noteOf m L).ents = L := by
  subst hk
  show (if hasI (msgMay (m.kind % 10 + 1)).1 101 = true then L else []) = L
  rw [h]
  rfl



theorem cutTo_size (n : Nat) (s : ByteArray) (h : s.size ≤ maxLen) : (cutTo n s).size ≤ maxLen := by
  unfold cutTo
  rw [ByteArray.size_extract]
  omega
theorem has_u64 {may : ByteArray} {c a : Int} (h : U64 a) : U64 (has' may c a 0) := by
  unfold has'
  split
  · exact h
  · unfold U64; omega
theorem nodeW_any (a : Int) (h : 0 ≤ a ∧ a < 18446744073709551616) (k : Int) (hk : 0 < k ∧ k < 10000) : U64 (a % k) := by
  unfold U64
  have := Int.emod_nonneg a (b := k) (by omega)
  have := Int.emod_lt_of_pos a (b := k) (by omega)
  omega
theorem nodeW_any1 (a : Int) (k : Int) (hk : 0 < k ∧ k < 10000) : U64 (a % k + 1) := by
  unfold U64
  have := Int.emod_nonneg a (b := k) (by omega)
  have := Int.emod_lt_of_pos a (b := k) (by omega)
  omega

theorem madeOf_fits (e : Ent) (h : e.Fits) : (madeOf e).Fits := by
  obtain ⟨h1, h2, h3, h4, h5, h6, h7, h8⟩ := h
  refine ⟨nodeW_any1 _ 1000 (by omega), nodeW_any1 _ 1000 (by omega), has_u64 (nodeW_any1 _ 5 (by omega)), has_u64 (nodeW_any _ h4 9 (by omega)), has_u64 (nodeW_any _ h5 9 (by omega)), has_u64 (nodeW_any _ h6 9 (by omega)), ?_, ?_⟩
  · show (if hasI _ 100 = true then cutTo 64 e.data else ⟨#[]⟩ : ByteArray).size ≤ maxLen
    split
    · exact cutTo_size 64 _ h7
    · exact Nat.zero_le _
  · show (if hasI _ 111 = true then cutTo 64 e.old else ⟨#[]⟩ : ByteArray).size ≤ maxLen
    split
    · exact cutTo_size 64 _ h8
    · exact Nat.zero_le _

theorem noteM_fits (m : Msg) (l : List Ent) (h : m.Fits) (hl : ∀ e, e ∈ l → e.Fits) : (noteM m l).Fits := by
  obtain ⟨h1, h2, h3, h4, h5, h6, h7, h8⟩ := h
  have hL : ∀ e, e ∈ (l.map madeOf).take 10 → e.Fits := fun e he => by
    obtain ⟨x, hx, rfl⟩ := List.mem_map.1 (List.mem_of_mem_take he)
    exact madeOf_fits x (hl x hx)
  refine ⟨h1, has_u64 h2, has_u64 h3, has_u64 h4, has_u64 h5, ?_, ?_, ?_⟩
  · show ∀ e, e ∈ (if hasI _ 101 = true then (l.map madeOf).take 10 else []) → e.Fits
    split
    · exact hL
    · intro e he; cases he
  · show (if hasI _ 101 = true then (l.map madeOf).take 10 else []).length ≤ maxLen
    split
    · rw [List.length_take]; unfold maxLen; omega
    · exact Nat.zero_le _
  · show (if hasI _ 115 = true then cutTo 200 m.snap else ⟨#[]⟩ : ByteArray).size ≤ maxLen
    split
    · exact cutTo_size 200 _ h8
    · exact Nat.zero_le _

end Go.Proofs.YtnnpjjehecbljaaGreatDoor

namespace Go.Proofs.YtnnpjjehecbljaaGreatDoor
open Go.RowKit

/-- A reader at block r. -/
def Rd (w : World) (r : Nat) (s : ByteArray) (b : Bool) : Prop := Blk w r #[.string s, .bool b] 99

set_option maxHeartbeats 400000 in
theorem vNew (s : ByteArray) (w : World) :
    Calls Tryz.prog 38 #[.string s] w fun e w' => e = .returned (.pointer (some ⟨w.heap.size, 0, none⟩)) ∧ Rd w' w.heap.size s false ∧ Fr [] w w' := by
  go_enter Tryz.func38, Tryz.ntmps38
  go_wp2
  go_ret
  exact ⟨by simp, Blk.new _ _ _, (Fr.refl _ _).alloc _⟩

set_option maxHeartbeats 400000 in
theorem vFail (r : Nat) (s : ByteArray) (b : Bool) (w : World) (h : Rd w r s b) :
    Calls Tryz.prog 41 #[.pointer (some ⟨r, 0, none⟩)] w fun e w' => e = .returned (.tuple #[]) ∧ Rd w' r ⟨#[]⟩ true ∧ Fr [r] w w' := by
  have c0 := h.cellAt (i := 0) rfl
  have c1 := h.cellAt (i := 1) rfl
  have f0 := h.froz 0
  have f1 := h.froz 1
  go_enter Tryz.func41, Tryz.ntmps41
  go_wp2
  go_end0
  exact ⟨rfl, (Blk.set h 0 _).set 1 _, ((Fr.refl _ _).setCell (by simp) _).setCell (by simp) _⟩

set_option maxHeartbeats 400000 in
theorem vLeft (r : Nat) (s : ByteArray) (b : Bool) (w : World) (h : Rd w r s b) :
    Calls Tryz.prog 43 #[.pointer (some ⟨r, 0, none⟩)] w fun e w' => e = .returned (.int .i64 s.size) ∧ w = w' := by
  have c0 := h.cellAt (i := 0) rfl
  go_enter Tryz.func43, Tryz.ntmps43
  go_wp2
  go_ret
  exact ⟨by simp, rfl⟩

set_option maxHeartbeats 400000 in
theorem vOK (r : Nat) (s : ByteArray) (b : Bool) (w : World) (h : Rd w r s b) :
    Calls Tryz.prog 42 #[.pointer (some ⟨r, 0, none⟩)] w fun e w' => e = .returned (.bool (!b)) ∧ w = w' := by
  have c1 := h.cellAt (i := 1) rfl
  go_enter Tryz.func42, Tryz.ntmps42
  go_wp2
  go_ret
  exact ⟨by simp, rfl⟩

/-- Bytes: what is read, what is left, whether it is bad. -/
def rdBytes (s : ByteArray) (b : Bool) (n : Int) : ByteArray × ByteArray × Bool :=
  if b = true ∨ n < 0 ∨ (s.size : Int) < n then (⟨#[]⟩, ⟨#[]⟩, true) else (s.extract 0 n.toNat, s.extract n.toNat s.size, b)

theorem rdBytes_size (s : ByteArray) (b : Bool) (n : Int) (N : Nat) (hn : n ≤ N) : (rdBytes s b n).1.size ≤ N := by
  unfold rdBytes
  split
  · exact Nat.zero_le _
  · rw [ByteArray.size_extract]; omega

end Go.Proofs.YtnnpjjehecbljaaGreatDoor

namespace Go.Proofs.YtnnpjjehecbljaaGreatDoor
open Go.RowKit

theorem xor_u32 (a b : Nat) (ha : a < 4294967296) (hb : b < 4294967296) : bits .xor .u32 (a : Int) (b : Int) = ((a ^^^ b : Nat) : Int) := by
  have ha' : a % 2 ^ 32 = a := Nat.mod_eq_of_lt (by simpa using ha)
  have hb' : b % 2 ^ 32 = b := Nat.mod_eq_of_lt (by simpa using hb)
  have hx : a ^^^ b < 2 ^ 32 := Nat.xor_lt_two_pow (by simpa using ha) (by simpa using hb)
  have hb2 : IntKind.u32.bits = 32 := rfl
  simp only [bits, hb2, BitVec.ofInt_natCast, BitVec.toNat_xor, BitVec.toNat_ofNat, ha', hb']
  simp [IntKind.wrap, IntKind.bits, IntKind.signed]
  omega

theorem and1_u32 (a : Nat) (ha : a < 4294967296) : bits .and .u32 (a : Int) 1 = ((a % 2 : Nat) : Int) := by
  have ha' : a % 2 ^ 32 = a := Nat.mod_eq_of_lt (by simpa using ha)
  have hb2 : IntKind.u32.bits = 32 := rfl
  have e1 : (1 : Int) = ((1 : Nat) : Int) := rfl
  rw [e1]
  simp only [bits, hb2, BitVec.ofInt_natCast, BitVec.toNat_and, BitVec.toNat_ofNat, ha']
  simp [IntKind.wrap, IntKind.bits, IntKind.signed, Nat.and_one_is_mod]
  omega

theorem not_u32 (a : Nat) (ha : a < 4294967296) : bits .xor .u32 IntKind.u32.max (a : Int) = ((4294967295 - a : Nat) : Int) := by
  have e1 : IntKind.u32.max = ((4294967295 : Nat) : Int) := rfl
  rw [e1, xor_u32 _ _ (by omega) ha]
  congr 1
  have h2 : (BitVec.allOnes 32 ^^^ BitVec.ofNat 32 a) = ~~~ (BitVec.ofNat 32 a) := BitVec.allOnes_xor
  have h3 := congrArg BitVec.toNat h2
  simp only [BitVec.toNat_xor, BitVec.toNat_allOnes, BitVec.toNat_ofNat, BitVec.toNat_not] at h3
  rw [Nat.mod_eq_of_lt (by simpa using ha)] at h3
  simpa using h3

/-- One bit. -/
def crcBit (x : Nat) : Nat := (x / 2) ^^^ (if x % 2 = 1 then 2197175160 else 0)
def crcBits : Nat → Nat → Nat
  | 0, x => x
  | k + 1, x => crcBits k (crcBit x)
def crcByte (x : Nat) (c : UInt8) : Nat := crcBits 8 (x ^^^ c.toNat)
def crcRun (x : Nat) (l : List UInt8) : Nat := l.foldl crcByte x
def crcMore (sum : Nat) (l : List UInt8) : Nat := 4294967295 - crcRun (4294967295 - sum) l

theorem crcBit_lt {x : Nat} (h : x < 4294967296) : crcBit x < 4294967296 := by
  have h2 : x / 2 < 2 ^ 32 := by simp; omega
  have h3 : (if x % 2 = 1 then 2197175160 else 0) < 2 ^ 32 := by split <;> decide
  have := Nat.xor_lt_two_pow h2 h3
  simpa [crcBit] using this

theorem crcBits_lt (k : Nat) : ∀ {x : Nat}, x < 4294967296 → crcBits k x < 4294967296 := by
  induction k with
  | zero => exact fun h => h
  | succ k ih => exact fun h => ih (crcBit_lt h)

theorem crcBits_succ (k : Nat) : ∀ x, crcBits (k + 1) x = crcBit (crcBits k x) := by
  induction k with
  | zero => intro x; rfl
  | succ k ih => intro x; rw [crcBits, ih]; rfl

theorem xor_byte_lt {x : Nat} (h : x < 4294967296) (c : UInt8) : x ^^^ c.toNat < 4294967296 := by
  have := Nat.xor_lt_two_pow (n := 32) (x := x) (y := c.toNat) (by simpa using h) (by have := c.toNat_lt; simp; omega)
  simpa using this

theorem crcByte_lt {x : Nat} (h : x < 4294967296) (c : UInt8) : crcByte x c < 4294967296 := crcBits_lt 8 (xor_byte_lt h c)

theorem crcRun_lt (l : List UInt8) : ∀ {x : Nat}, x < 4294967296 → crcRun x l < 4294967296 := by
  induction l with
  | nil => exact fun h => h
  | cons c l ih => exact fun h => ih (crcByte_lt h c)

theorem crcMore_lt (sum : Nat) (l : List UInt8) : crcMore sum l < 4294967296 := by unfold crcMore; omega

/-- The reference's bit: the byte's bits are taken in one by one. -/
def crcRef (c : Nat) : Nat → Nat → Nat
  | 0, x => x
  | k + 1, x => (crcRef c k x / 2) ^^^ (if (crcRef c k x ^^^ (c / 2 ^ k)) % 2 = 1 then 2197175160 else 0)

theorem crcRef_eq (c : Nat) (k : Nat) (x : Nat) : crcBits k (x ^^^ c) = crcRef c k x ^^^ (c / 2 ^ k) := by
  induction k with
  | zero => simp [crcBits, crcRef]
  | succ k ih =>
    rw [crcBits_succ, ih, crcRef, crcBit]
    have h1 : (crcRef c k x ^^^ (c / 2 ^ k)) / 2 = crcRef c k x / 2 ^^^ (c / 2 ^ (k + 1)) := by
      have this : (crcRef c k x ^^^ c / 2 ^ k) >>> 1 = crcRef c k x >>> 1 ^^^ (c / 2 ^ k) >>> 1 := Nat.shiftRight_xor_distrib
      simp only [Nat.shiftRight_eq_div_pow] at this
      rw [Nat.pow_succ, ← Nat.div_div_eq_div_mul]
      simpa using this
    rw [h1, Nat.xor_assoc, Nat.xor_assoc, Nat.xor_comm (c / 2 ^ (k + 1))]

theorem crcRef_byte (x : Nat) (c : UInt8) : crcRef c.toNat 8 x = crcByte x c := by
  have h := crcRef_eq c.toNat 8 x
  have h2 : c.toNat / 2 ^ 8 = 0 := Nat.div_eq_of_lt c.toNat_lt
  rw [h2, Nat.xor_zero] at h
  exact h.symm

theorem step_val {q : Int} {a : Nat} (hq : q = (a : Int)) (ha : a < 4294967296) :
    bits BinOp.xor IntKind.u32 (q / 2) (2197175160 * bits BinOp.and IntKind.u32 q 1 % 4294967296) = ((crcBit a : Nat) : Int) := by
  subst hq
  rw [and1_u32 a ha]
  have h1 : ((a : Int) / 2) = ((a / 2 : Nat) : Int) := by omega
  have h2 : (2197175160 * ((a % 2 : Nat) : Int)) % 4294967296 = (((if a % 2 = 1 then 2197175160 else 0) : Nat) : Int) := by
    split <;> omega
  rw [h1, h2, xor_u32 _ _ (by omega) (by split <;> omega)]
  rfl

theorem take_val {q : Int} {a : Nat} (hq : q = (a : Int)) (ha : a < 4294967296) (c : UInt8) {d : Int} (hd : d = (c.toNat : Int)) :
    bits BinOp.xor IntKind.u32 q d = ((a ^^^ c.toNat : Nat) : Int) := by
  subst hq hd
  exact xor_u32 a _ ha (by have := c.toNat_lt; omega)

end Go.Proofs.YtnnpjjehecbljaaGreatDoor

namespace Go.Proofs.YtnnpjjehecbljaaGreatDoor
open Go.RowKit

theorem not_val {q : Int} {a : Nat} (hq : q = (a : Int)) (ha : a < 4294967296) : bits BinOp.xor IntKind.u32 IntKind.u32.max q = ((4294967295 - a : Nat) : Int) := by
  subst hq; exact not_u32 a ha

theorem crcRun_succ (x : Nat) (l : List UInt8) (k : Nat) (h : k < l.length) : crcRun x (l.take (k + 1)) = crcByte (crcRun x (l.take k)) (l.getD k 0) :=
  foldl_take_succ crcByte x l k h



theorem ref_test {q d : Int} {a c k : Nat} (hq : q = (a : Int)) (ha : a < 4294967296) (hd : d = (c : Int)) (hc : c < 256) :
    bits BinOp.xor IntKind.u32 q (d / 2 ^ k % 4294967296) = ((a ^^^ (c / 2 ^ k) : Nat) : Int) := by
  subst hq hd
  have h1 : c / 2 ^ k ≤ c := Nat.div_le_self _ _
  have h2 : ((c : Int) / 2 ^ k % 4294967296) = ((c / 2 ^ k : Nat) : Int) := by
    have : ((c : Int) / 2 ^ k) = ((c / 2 ^ k : Nat) : Int) := by simp
    rw [this]
    generalize c / 2 ^ k = z at h1
    omega
  rw [h2, xor_u32 _ _ ha (by omega)]

theorem ref_xor {q : Int} {a : Nat} (hq : q = (a : Int)) (ha : a < 4294967296) : bits BinOp.xor IntKind.u32 (q / 2) 2197175160 = (((a / 2) ^^^ 2197175160 : Nat) : Int) := by
  subst hq
  have h1 : ((a : Int) / 2) = ((a / 2 : Nat) : Int) := by omega
  rw [h1]
  exact xor_u32 _ 2197175160 (by omega) (by decide)

theorem crcRef_lt (c k x : Nat) (hx : x < 4294967296) (hc : c < 256) : crcRef c k x < 4294967296 := by
  have h := crcRef_eq c k x
  have h1 : crcBits k (x ^^^ c) < 2 ^ 32 := by
    have : x ^^^ c < 2 ^ 32 := Nat.xor_lt_two_pow (by simpa using hx) (by simp; omega)
    simpa using crcBits_lt k (by simpa using this)
  have h2 : c / 2 ^ k < 2 ^ 32 := by
    have : c / 2 ^ k ≤ c := Nat.div_le_self _ _
    simp; omega
  have h3 : crcRef c k x = crcBits k (x ^^^ c) ^^^ (c / 2 ^ k) := by
    rw [h, Nat.xor_assoc, Nat.xor_self, Nat.xor_zero]
  rw [h3]
  simpa using Nat.xor_lt_two_pow h1 h2

theorem tmod2 {x : Int} {n : Nat} (h : x = (n : Int)) : (x.tmod 2 == 1) = decide (n % 2 = 1) := by
  subst h
  rw [Int.tmod_eq_emod_of_nonneg (by omega)]
  by_cases h : n % 2 = 1
  · have : ((n : Int) % 2) = 1 := by omega
    simp [h, this]
  · have : ((n : Int) % 2) = 0 := by omega
    simp [h, this]


end Go.Proofs.YtnnpjjehecbljaaGreatDoor

namespace Go.Proofs.YtnnpjjehecbljaaGreatDoor
open Go.RowKit

/-- Var: what is read, what is left, whether it is bad. -/
def rdVar (s : ByteArray) (b : Bool) : Int × ByteArray × Bool :=
  match varGo s.data.toList 0 0 with
  | some (n, k) => ((n : Int), s.extract k s.size, b)
  | none => (0, ⟨#[]⟩, true)

theorem drop_cons (s : ByteArray) (k : Nat) (h : k < s.size) : s.data.toList.drop k = s[k] :: s.data.toList.drop (k + 1) := by
  have h' : k < s.data.toList.length := h
  rw [List.drop_eq_getElem_cons h']
  rfl

theorem varGo_more {s : ByteArray} {k : Nat} (h : k < s.size) {n : Nat} (h10 : k < 10) (hc : 128 ≤ s[k].toNat) :
    varGo (s.data.toList.drop k) k n = varGo (s.data.toList.drop (k + 1)) (k + 1) (vS n s[k].toNat k) := by
  rw [drop_cons s k h, varGo, if_neg (by omega), if_pos hc]

theorem varGo_end {s : ByteArray} {k : Nat} {n : Nat} (h : 10 ≤ k ∨ s.size ≤ k) : varGo (s.data.toList.drop k) k n = none := by
  rcases h with h | h
  · cases hl : s.data.toList.drop k with
    | nil => rfl
    | cons c r => rw [varGo, if_pos h]
  · rw [List.drop_eq_nil_of_le (by exact h)]; rfl

theorem rdVar_bad {s : ByteArray} {b : Bool} {k : Nat} {n : Nat} (H : Hid (varGo s.data.toList 0 0 = varGo (s.data.toList.drop k) k n)) (h : k < s.size) (hc : s[k].toNat < 128)
    (hbad : (0 < k ∧ s[k].toNat = 0) ∨ (k = 9 ∧ 1 < s[k].toNat)) : rdVar s b = (0, ⟨#[]⟩, true) := by
  rw [rdVar, H.out, drop_cons s k h, varGo]
  by_cases h10 : 10 ≤ k
  · rw [if_pos h10]
  · rw [if_neg h10, if_neg (by omega), if_pos hbad]

theorem rdVar_ok {s : ByteArray} {b : Bool} {k : Nat} {n : Nat} (H : Hid (varGo s.data.toList 0 0 = varGo (s.data.toList.drop k) k n)) (h : k < s.size) (h10 : k < 10) (hc : s[k].toNat < 128)
    (hok : ¬ ((0 < k ∧ s[k].toNat = 0) ∨ (k = 9 ∧ 1 < s[k].toNat))) : rdVar s b = (((vS n s[k].toNat k : Nat) : Int), s.extract (k + 1) s.size, b) := by
  rw [rdVar, H.out, drop_cons s k h, varGo, if_neg (by omega), if_neg (by omega), if_neg hok]

theorem rdVar_end {s : ByteArray} {b : Bool} {k : Nat} {n : Nat} (H : Hid (varGo s.data.toList 0 0 = varGo (s.data.toList.drop k) k n)) (h : 10 ≤ k ∨ s.size ≤ k) : rdVar s b = (0, ⟨#[]⟩, true) := by
  rw [rdVar, H.out, varGo_end h]

theorem bne_false {a : Nat} (h : ((a : Int) == 0) = false) : a ≠ 0 := by simpa using h

set_option maxRecDepth 100000 in
set_option maxHeartbeats 1000000 in
theorem vVar (r : Nat) (s : ByteArray) (b : Bool) (w : World) (h : Rd w r s b) (hs : s.size ≤ maxLen) :
    Calls Tryz.prog 40 #[.pointer (some ⟨r, 0, none⟩)] w fun e w' =>
      e = .returned (.int .u64 (rdVar s b).1) ∧ Rd w' r (rdVar s b).2.1 (rdVar s b).2.2 ∧ Fr [r] w w' := by
  unfold maxLen at hs
  have c0 := h.cellAt (i := 0) rfl
  have f0 := h.froz 0
  go_enter Tryz.func40, Tryz.ntmps40
  go_wp2_with fail
  have hm := mnI_le 10 s.size
  have hm0 : 0 ≤ mnI 10 s.size := by omega
  generalize mnI 10 s.size = m at *
  go_loop [2, 11] (fun v i => ∃ (k n : Nat) (q : Int), k ≤ m ∧ i = .int .i64 k ∧ v = .int .u64 q ∧ Hid (q = (n : Int) ∧ n < 18446744073709551616) ∧ Hid (varGo s.data.toList 0 0 = varGo (s.data.toList.drop k) k n)) (fun _ i => s.size - (intOf i).toNat)
  case atStart => exact ⟨0, 0, 0, by omega, rfl, rfl, ⟨rfl, by decide⟩, rfl⟩
  case round =>
    obtain ⟨k, n, q, hk, rfl, rfl, HQ, HV⟩ := hrel
    by_cases hlt : k < m
    · have h1 : k < 10 := by omega
      have h2 : k < s.size := by omega
      have HN := Lib.hid (vS_bits (k := k) HQ.out.1 HQ.out.2 s[k].toNat_lt)
      go_wp2_with (go_at_call 41; refine (vFail _ _ _ _ h).mono ?_; rintro e w' ⟨rfl, h3, h4⟩)
      · go_round
        case rel => exact ⟨k + 1, _, _, by omega, by go_num, rfl, ⟨HN.out, vS_lt HQ.out.2⟩, HV.out.trans (varGo_more h2 h1 (by omega))⟩
        case measure => simp [intOf]; omega
      · go_ret
        rw [rdVar_bad HV h2 (by omega) (by omega)]
        exact ⟨by simp, h3, h4⟩
      · go_ret
        rw [rdVar_bad HV h2 (by omega) (by rename_i h5 _; rcases h5 with h5 | h5; (simp at h5; omega); omega)]
        exact ⟨by simp, h3, h4⟩
      · go_ret
        obtain rfl : k = 9 := by omega
        rw [rdVar_ok HV h2 h1 (by omega) (by rename_i h5; have := bne_false h5.1; omega)]
        exact ⟨ret_int HN.out, Blk.set h 0 _, (Fr.refl _ _).setCell (by simp) _⟩
      · go_ret
        rw [rdVar_ok HV h2 h1 (by omega) (by omega)]
        exact ⟨ret_int HN.out, Blk.set h 0 _, (Fr.refl _ _).setCell (by simp) _⟩
      · go_ret
        rw [rdVar_ok HV h2 h1 (by omega) (by omega)]
        exact ⟨ret_int HN.out, Blk.set h 0 _, (Fr.refl _ _).setCell (by simp) _⟩
    · go_wp2_with (go_at_call 41; refine (vFail _ _ _ _ h).mono ?_; rintro e w' ⟨rfl, h3, h4⟩)
      go_ret
      rw [rdVar_end HV (by omega)]
      exact ⟨by simp, h3, h4⟩
end Go.Proofs.YtnnpjjehecbljaaGreatDoor

namespace Go.Proofs.YtnnpjjehecbljaaGreatDoor
open Go.RowKit

def fixB (n : Int) (i : Nat) : Int := n / 2 ^ (8 * (7 - i)) % 256
def fixArr (n : Int) (k : Nat) : Array Value := ((List.range 8).map (fun i => Value.int .u8 (if i < k then fixB n i else 0))).toArray
/-- A number's lowest bytes. -/
def fixL (n : Int) (size : Nat) : List UInt8 := ((List.range 8).drop (8 - size)).map (fun i => UInt8.ofNat (fixB n i).toNat)

theorem fixArr_set (n : Int) (k : Nat) (h : k < 8) : (fixArr n k).setIfInBounds k (.int .u8 (n / 2 ^ (8 * (7 - k)) % 256)) = fixArr n (k + 1) := by
  match k, h with
  | 0, _ => rfl | 1, _ => rfl | 2, _ => rfl | 3, _ => rfl | 4, _ => rfl | 5, _ => rfl | 6, _ => rfl | 7, _ => rfl

theorem fixArr_get (n : Int) (k i : Nat) (h : i < 8) : (fixArr n k)[i]? = some (.int .u8 (if i < k then fixB n i else 0)) := by
  simp [fixArr, h]

theorem fixB_bd (n : Int) (i : Nat) : 0 ≤ fixB n i ∧ fixB n i < 256 := by
  unfold fixB; omega

theorem fixL_length (n : Int) (size : Nat) (h : size ≤ 8) : (fixL n size).length = size := by
  simp [fixL]; omega

theorem fixL_get (n : Int) (size j : Nat) (hj : j < (fixL n size).length) (hs : size ≤ 8) : ((fixL n size)[j].toNat : Int) = fixB n (8 - size + j) := by
  have h1 : j < size := by rw [fixL_length n size hs] at hj; exact hj
  have hb := fixB_bd n (8 - size + j)
  simp [fixL]
  omega



end Go.Proofs.YtnnpjjehecbljaaGreatDoor

namespace Go.Proofs.YtnnpjjehecbljaaGreatDoor
open Go.RowKit

theorem Tryz.elB : ElT Tryz.prog 47 5 (.int .u8 0) 1 1 := ElT.mk' Tryz.underlying47 (by kernel_rfl) rfl (by decide)

def cellsB (l : List UInt8) : List Value := l.map (fun b => Value.int .u8 (b.toNat : Int))

theorem or128 : ∀ r : Fin 256, bits BinOp.or IntKind.u8 (r.val : Int) 128 = (r.val : Int) % 128 + 128 := by decide +kernel

theorem or128_int (q : Int) (_h : 0 ≤ q) : bits BinOp.or IntKind.u8 (q % 256) 128 = ((UInt8.ofNat (q.toNat % 128 + 128)).toNat : Int) := by
  have h1 := or128 ⟨(q % 256).toNat, by omega⟩
  have h2 : (((q % 256).toNat : Nat) : Int) = q % 256 := by omega
  simp only [h2] at h1
  rw [h1]
  simp
  omega

theorem putF_more {f : Nat} {q : Int} (_h : 0 ≤ q) (hq : 128 ≤ q) : putF (f + 1) q.toNat = UInt8.ofNat (q.toNat % 128 + 128) :: putF f (q / 128).toNat := by
  rw [putF, if_neg (by omega)]
  congr 2
  omega

theorem putF_last {f : Nat} {q : Int} (hq : q < 128) : putF (f + 1) q.toNat = [UInt8.ofNat q.toNat] := by
  rw [putF, if_pos (by omega)]

theorem cellsB_snoc (l : List UInt8) (b : UInt8) : cellsB l ++ [.int .u8 (b.toNat : Int)] = cellsB (l ++ [b]) := by simp [cellsB]

theorem ofNat_toNat {q : Int} (h0 : 0 ≤ q) (h : q < 256) : ((UInt8.ofNat q.toNat).toNat : Int) = q := by simp; omega

set_option maxRecDepth 100000 in
set_option maxHeartbeats 1000000 in
theorem vPut (n : Int) (w : World) (hn0 : 0 ≤ n) (hn : n < 18446744073709551616):
    Calls Tryz.prog 36 #[.int .u64 n] w fun e w' =>
      e = .returned (.string (bs (putL n.toNat))) ∧ Fr [] w w' := by
  have Hn : Hid (n.toNat < 128 ^ 10) := show n.toNat < 128 ^ 10 from Nat.lt_of_lt_of_le (m := 18446744073709551616) (by omega) (by decide)
  go_enter Tryz.func36, Tryz.ntmps36
  go_wp2_with (refine wpList_make0 Tryz.elB _ _ 10 _ _ rfl rfl w.heap.size (Nat.le_refl _) (by decide) (by decide) ?_; intro v0 w0 hO0 hF0)
  go_loopw [0, 3] (fun x v wr => ∃ q f l, x = .int .u64 q ∧ 0 ≤ q ∧ q < 18446744073709551616 ∧ l.length + f = 9 ∧ Hid (q.toNat < 128 ^ (f + 1)) ∧ Hid (putL n.toNat = l ++ putF (f + 1) q.toNat) ∧ Hid (wr.ownsRow w.heap.size 5 1 v l.length (cellsB l)) ∧ Hid (Fr [] w wr)) (fun x _ _ => (intOf x).toNat)
  case atStart => exact ⟨n, 9, [], rfl, hn0, hn, rfl, Hn, rfl, hO0, hF0⟩
  case round =>
    obtain ⟨q, f, l, rfl, hq0, hq, hlf, Hk, Hp, Ho, HF⟩ := hrel
    have hl9 : l.length + 1 ≤ maxLen := by unfold maxLen; omega
    have hsz := HF.out.size
    by_cases hlt : q < 128
    · go_wp2_with (refine wpList_app Tryz.elB (.tmp 15) (.tmp 18) w.heap.size _ l.length (cellsB l) rfl (Ho.out.alloc _) ⟨wr.heap.size, 0, none⟩ 1 1 [.int .u8 q] rfl rfl (cell_one_new _ _ _) (by simp [Value.oneCell']) hl9 (by omega) (by show _ ≤ (wr.heap.push _).size; rw [Array.size_push]; omega) ?_; intro v1 w1 Ho1 HF1; have hcv := run_string_own (P := Tryz.prog) (l := l ++ [UInt8.ofNat q.toNat]) Tryz.underlying47 Tryz.underlying5 Tryz.underlying9 (by rw [← cellsB, ← cellsB_snoc, ofNat_toNat hq0 (by omega)]; exact Ho1.out))
      go_ret
      exact ⟨ret_str (by rw [Hp.out, putF_last hlt]; rfl), ((HF.out.alloc _).trans HF1.out (fun x hx => .inr (ownsRow_below Ho.out x hx)))⟩
    · obtain ⟨f, rfl⟩ : ∃ m, f = m + 1 := by
        cases f with
        | zero => have := Hk.out; omega
        | succ m => exact ⟨m, rfl⟩
      go_wp2_with (refine wpList_app Tryz.elB (.tmp 9) (.tmp 13) w.heap.size _ l.length (cellsB l) rfl (Ho.out.alloc _) ⟨wr.heap.size, 0, none⟩ 1 1 [.int .u8 (bits BinOp.or IntKind.u8 (q % 256) 128)] rfl rfl (cell_one_new _ _ _) (by simp [Value.oneCell']) hl9 (by omega) (by show _ ≤ (wr.heap.push _).size; rw [Array.size_push]; omega) ?_; intro v1 w1 Ho1 HF1)
      refine ⟨⟨q / 128, f, l ++ [UInt8.ofNat (q.toNat % 128 + 128)], rfl, by omega, by omega, by simp only [List.length_append, List.length_cons, List.length_nil]; omega, ?_, ?_, ?_, ?_⟩, by simp only [intOf]; omega⟩
      · have h := Hk.out
        rw [Nat.pow_succ] at h
        show (q / 128).toNat < 128 ^ (f + 1)
        omega
      · show putL n.toNat = _
        rw [Hp.out, putF_more hq0 (by omega)]; simp
      · show World.ownsRow _ _ _ _ _ _ _
        rw [← cellsB_snoc, ← or128_int q hq0]
        simpa using Ho1.out
      · exact ((HF.out.alloc _).trans HF1.out (fun x hx => .inr (ownsRow_below Ho.out x hx)))
end Go.Proofs.YtnnpjjehecbljaaGreatDoor

namespace Go.Proofs.YtnnpjjehecbljaaGreatDoor
open Go.RowKit




theorem beStep_mul {q : Int} {a : Nat} (hq : q = (a : Int)) (b : UInt8) :
    IntKind.u64.wrap (IntKind.u64.wrap (q * 256) + IntKind.u64.wrap (b.toNat : Int)) = ((beStep a b : Nat) : Int) := by
  subst hq
  have := b.toNat_lt
  simp only [IntKind.wrap_u64]
  unfold beStep
  omega

theorem getD_get (s : ByteArray) (k : Nat) (h : k < s.size) : s.data.toList.getD k 0 = s[k] := by
  have h' : k < s.data.toList.length := h
  rw [List.getD_eq_getElem?_getD, List.getElem?_eq_getElem h']; rfl

/-! ### Put -/
theorem ofByte128 {q : Int} (h : 0 ≤ q) : (q % 128 + 128) = ((UInt8.ofNat (q.toNat % 128 + 128)).toNat : Int) := by
  simp; omega

end Go.Proofs.YtnnpjjehecbljaaGreatDoor

namespace Go.Proofs.YtnnpjjehecbljaaGreatDoor
open Go.RowKit

def refArr (n : Int) (size j : Nat) : Array Value := ((List.range size).map (fun i => Value.int .u8 (if j ≤ i then n / 256 ^ (size - 1 - i) % 256 else 0))).toArray

theorem refArr_set (n : Int) (size j : Nat) (_h : j < size) : (refArr n size (j + 1)).setIfInBounds j (.int .u8 (n / 256 ^ (size - 1 - j) % 256)) = refArr n size j := by
  apply Array.ext
  · simp [refArr]
  · intro i h1 h2
    simp only [refArr, Array.size_setIfInBounds, List.size_toArray, List.length_map, List.length_range] at h1 h2
    rw [Array.getElem_setIfInBounds (by simpa [refArr] using h1)]
    simp only [refArr, List.getElem_toArray, List.getElem_map, List.getElem_range]
    by_cases e : j = i
    · subst e; simp
    · rw [if_neg e]
      congr 1
      by_cases h3 : j ≤ i
      · rw [if_pos (by omega), if_pos h3]
      · rw [if_neg (by omega), if_neg h3]

theorem refArr_get (n : Int) (size j i : Nat) (h : i < size) : (refArr n size j)[i]? = some (.int .u8 (if j ≤ i then n / 256 ^ (size - 1 - i) % 256 else 0)) := by
  simp [refArr, h]

theorem refArr_zero (n : Int) (size : Nat) : refArr n size size = Array.replicate size (.int .u8 0) := by
  apply Array.ext
  · simp [refArr]
  · intro i h1 h2
    simp only [refArr, List.size_toArray, List.length_map, List.length_range] at h1
    simp [refArr]
    omega

theorem pow256 (k : Nat) : (2 : Int) ^ (8 * k) = 256 ^ k := by rw [Int.pow_mul]; rfl

theorem fixB_ref (n : Int) (size i : Nat) (hs : size ≤ 8) (hi : i < size) : fixB n (8 - size + i) = n / 256 ^ (size - 1 - i) % 256 := by
  unfold fixB
  rw [pow256, show 7 - (8 - size + i) = size - 1 - i from by omega]

theorem div256 (n : Int) (k : Nat) : n / 256 ^ k / 256 = n / 256 ^ (k + 1) := by
  rw [Int.ediv_ediv_of_nonneg (by exact Int.pow_nonneg (by decide)), Int.pow_succ]


/-! ### Var -/
theorem rstep_bits {q : Int} {n c k : Nat} (hq : q = (n : Int)) (hn : n < 18446744073709551616) :
    bits BinOp.or IntKind.u64 q (IntKind.u64.wrap ((c : Int) % 128 * 2 ^ (7 * k))) = ((vS n c k : Nat) : Int) := by
  subst hq
  have h1 : ((c : Int) % 128) = ((c % 128 : Nat) : Int) := by omega
  rw [h1, IntKind.wrap_u64]
  have h2 : ((c % 128 : Nat) : Int) * 2 ^ (7 * k) % 18446744073709551616 = ((c % 128 * 2 ^ (7 * k) % 18446744073709551616 : Nat) : Int) := by simp
  rw [h2, bits_or_u64_nat _ _ hn (Nat.mod_lt _ (by decide))]
  rfl

theorem take_snoc (s : ByteArray) (k : Nat) (h : k < s.size) : s.data.toList.take (k + 1) = s.data.toList.take k ++ [s[k]] := by
  rw [List.take_succ_eq_append_getElem (by simpa using h)]; rfl

theorem extract_take (s : ByteArray) (k : Nat) : (s.extract 0 k).toList = s.data.toList.take k := by
  rw [Lib.extract_toList]; simp

/-- What has been read by k rounds: numbers of 128 and more. -/
def VarIn (s : ByteArray) (k n : Nat) : Prop := n = vval (s.data.toList.take k) % 18446744073709551616 ∧ ∀ b ∈ s.data.toList.take k, 128 ≤ b.toNat

theorem VarIn.len {s : ByteArray} {k : Nat} (h : k < s.size) : (s.data.toList.take k).length = k := by
  have : k < s.data.toList.length := h
  rw [List.length_take]; exact Nat.min_eq_left (Nat.le_of_lt this)

theorem VarIn.num {s : ByteArray} {k n : Nat} (h : VarIn s k n) (hk : k < s.size) (h9 : k ≤ 9) : n = vval (s.data.toList.take k) := by
  have h1 := vval_lt (s.data.toList.take k)
  rw [VarIn.len hk] at h1
  have h2 : (128 : Nat) ^ k ≤ 128 ^ 9 := Nat.pow_le_pow_right (by decide) h9
  have h3 : (128 : Nat) ^ 9 = 9223372036854775808 := by decide
  rw [h.1, Nat.mod_eq_of_lt (by omega)]

theorem VarIn.next {s : ByteArray} {k n : Nat} (h : VarIn s k n) (hk : k < s.size) (h9 : k ≤ 9) (hc : 128 ≤ s[k].toNat) : VarIn s (k + 1) (vS n s[k].toNat k) := by
  have e := h.num hk h9
  have hl := VarIn.len hk
  refine ⟨?_, ?_⟩
  · have := vS_val (l := s.data.toList.take k) (c := s[k]) (by omega)
    rw [hl, ← e] at this
    rw [this, take_snoc s k hk]
  · intro b hb
    rw [take_snoc s k hk] at hb
    rcases List.mem_append.1 hb with h1 | h1
    · exact h.2 b h1
    · simp at h1; subst h1; exact hc

theorem VarIn.test {s : ByteArray} {k n : Nat} (h : VarIn s k n) (hk : k < s.size) (h9 : k ≤ 9) (hc : s[k].toNat < 128) {q : Int} (hq : q = ((vS n s[k].toNat k : Nat) : Int)) :
    ((bs (putL q.toNat)).toList == (s.extract 0 (k + 1)).toList) = true ↔ ¬ ((0 < k ∧ s[k].toNat = 0) ∨ (k = 9 ∧ 1 < s[k].toNat)) := by
  have hl := VarIn.len hk
  have := put_test (l := s.data.toList.take k) (c := s[k]) (by omega) h.2 hc
  rw [hl, ← h.num hk h9] at this
  rw [← this, beq_iff_eq, Lib.toList_data, bs_list, extract_take, take_snoc s k hk, hq, Int.toNat_natCast]

end Go.Proofs.YtnnpjjehecbljaaGreatDoor

namespace Go.Proofs.YtnnpjjehecbljaaGreatDoor
open Go.RowKit

def lenL (v : Int) (n : Nat) : List UInt8 := if v = 1 then fixL n 4 else putL n
def headL (v : Int) (n : Nat) : List UInt8 := fixL (160 + v) 1 ++ lenL v n
def packL (v : Int) (l : List UInt8) : List UInt8 := headL v l.length ++ fixL (crcMore (crcMore 0 (headL v l.length)) l : Nat) 4 ++ l
def packR (v : Int) (l : List UInt8) : List UInt8 × Bool := if 1 ≤ v ∧ v ≤ 2 ∧ l.length ≤ 1048576 then (packL v l, true) else ([], false)


theorem fixL_size (n : Int) (k : Nat) (h : k ≤ 8) : (bs (fixL n k)).size = k := by rw [bs_size, fixL_length n k h]
theorem lenL_size (v : Int) (n : Nat) : (bs (lenL v n)).size ≤ 10 := by
  rw [bs_size, lenL]
  split
  · rw [fixL_length _ _ (by decide)]; decide
  · exact putL_length n

end Go.Proofs.YtnnpjjehecbljaaGreatDoor

namespace Go.Proofs.YtnnpjjehecbljaaGreatDoor
open Go.RowKit

theorem rdBytes_left (s : ByteArray) (b : Bool) (n : Int) : (rdBytes s b n).2.1.size ≤ s.size := by
  unfold rdBytes
  split
  · exact Nat.zero_le _
  · simp only [ByteArray.size_extract]; omega
theorem rdBytes_got (s : ByteArray) (b : Bool) (n : Int) : (rdBytes s b n).1.size ≤ s.size := by
  unfold rdBytes
  split
  · exact Nat.zero_le _
  · simp only [ByteArray.size_extract]; omega
theorem rdVar_left (s : ByteArray) (b : Bool) : (rdVar s b).2.1.size ≤ s.size := by
  unfold rdVar
  split
  · simp only [ByteArray.size_extract]; omega
  · exact Nat.zero_le _

theorem varGo_lt (l : List UInt8) : ∀ i n, n < 18446744073709551616 → ∀ m k, varGo l i n = some (m, k) → m < 18446744073709551616 := by
  induction l with
  | nil => intro i n _ m k h; simp [varGo] at h
  | cons c l ih =>
    intro i n hn m k h
    rw [varGo] at h
    split at h
    · cases h
    · split at h
      · exact ih _ _ (vS_lt hn) _ _ h
      · split at h
        · cases h
        · cases h; exact vS_lt hn

theorem rdVar_lt (s : ByteArray) (b : Bool) : 0 ≤ (rdVar s b).1 ∧ (rdVar s b).1 < 18446744073709551616 := by
  unfold rdVar
  split
  · rename_i n k h
    have := varGo_lt _ _ _ (by decide) _ _ h
    exact ⟨by simp, by simp; omega⟩
  · decide

/-- What stands behind the length. -/
def nextT (s : ByteArray) (v : Int) (k : Int) (s2 : ByteArray) (b2 : Bool) : Int × ByteArray × Int × Bool :=
  if (rdBytes s2 b2 4).2.2 = true ∨ 1048576 < k ∨ ((rdBytes s2 b2 4).2.1.size : Int) < k then (0, bs [], 0, false)
  else if crcMore (crcMore 0 (s.extract 0 (s.size - s2.size)).data.toList) (rdBytes (rdBytes s2 b2 4).2.1 (rdBytes s2 b2 4).2.2 k).1.data.toList = beNum 0 (rdBytes s2 b2 4).1.data.toList then
    (v, (rdBytes (rdBytes s2 b2 4).2.1 (rdBytes s2 b2 4).2.2 k).1, (s.size : Int) - ((rdBytes (rdBytes s2 b2 4).2.1 (rdBytes s2 b2 4).2.2 k).2.1.size : Int), true)
  else (0, bs [], 0, false)

def nextS (s : ByteArray) : Int × ByteArray × Int × Bool :=
  if beNum 0 (rdBytes s false 1).1.data.toList = 161 then
    nextT s 1 (beNum 0 (rdBytes (rdBytes s false 1).2.1 (rdBytes s false 1).2.2 4).1.data.toList : Nat) (rdBytes (rdBytes s false 1).2.1 (rdBytes s false 1).2.2 4).2.1 (rdBytes (rdBytes s false 1).2.1 (rdBytes s false 1).2.2 4).2.2
  else if beNum 0 (rdBytes s false 1).1.data.toList = 162 then
    nextT s 2 (rdVar (rdBytes s false 1).2.1 (rdBytes s false 1).2.2).1 (rdVar (rdBytes s false 1).2.1 (rdBytes s false 1).2.2).2.1 (rdVar (rdBytes s false 1).2.1 (rdBytes s false 1).2.2).2.2
  else (0, bs [], 0, false)


theorem beNum_one (s : ByteArray) (b : Bool) : beNum 0 (rdBytes s b 1).1.data.toList < 256 := by
  have h := rdBytes_size s b 1 1 (by decide)
  have h' : (rdBytes s b 1).1.data.toList.length ≤ 1 := h
  match hl : (rdBytes s b 1).1.data.toList, h' with
  | [], _ => decide
  | [c], _ => simp [beNum, beStep]; have := c.toNat_lt; omega

theorem funcZero : ∀ w, (zeroValue 81).run Tryz.prog w = .ok .nilFunc w := fun _ => by kernel_rfl

end Go.Proofs.YtnnpjjehecbljaaGreatDoor

namespace Go.Proofs.YtnnpjjehecbljaaGreatDoor
open Go.RowKit

theorem str_one (q : Int) (c : UInt8) (hq : q = (c.toNat : Int)) (w : World) :
    (convert 47 9 (.slice (some ⟨w.heap.size, 0, none⟩) 1 1)).run Tryz.prog (w.alloc (.cells #[.int .u8 q] 5)) = .ok (.string (bs [c])) (w.alloc (.cells #[.int .u8 q] 5)) := by
  refine run_convert_bytes_back (P := Tryz.prog) _ 47 9 5 ⟨w.heap.size, 0, none⟩ 1 [c] Tryz.underlying47 Tryz.underlying5 Tryz.underlying9 ?_
  intro j hj
  obtain rfl : j = 0 := by simpa using hj
  rw [show (⟨w.heap.size, 0, none⟩ : Addr).add 0 = ⟨w.heap.size, 0, none⟩ from rfl, (Blk.new w #[.int .u8 q] 5).cell]
  simp [hq]

theorem crcMore_append (x : Nat) (a b : List UInt8) (_hx : x < 4294967296) : crcMore x (a ++ b) = crcMore (crcMore x a) b := by
  have h := crcRun_lt a (x := 4294967295 - x) (by omega)
  unfold crcMore
  have e : crcRun (4294967295 - x) (a ++ b) = crcRun (crcRun (4294967295 - x) a) b := by unfold crcRun; rw [List.foldl_append]
  rw [e, show 4294967295 - (4294967295 - crcRun (4294967295 - x) a) = crcRun (4294967295 - x) a from by omega]

end Go.Proofs.YtnnpjjehecbljaaGreatDoor

namespace Go.Proofs.YtnnpjjehecbljaaGreatDoor
open Go.RowKit

def nextQT (s : ByteArray) (v k : Int) (s2 : ByteArray) (b2 : Bool) : Int × ByteArray × Int × Bool :=
  if ((rdBytes s2 b2 4).2.1.size : Int) < k then (0, bs [], 0, false)
  else if (rdBytes (rdBytes s2 b2 4).2.1 (rdBytes s2 b2 4).2.2 k).2.2 = true ∨ (packR v (rdBytes (rdBytes s2 b2 4).2.1 (rdBytes s2 b2 4).2.2 k).1.data.toList).2 = false ∨
      s.size < (bs (packR v (rdBytes (rdBytes s2 b2 4).2.1 (rdBytes s2 b2 4).2.2 k).1.data.toList).1).size ∨
      (s.extract 0 (bs (packR v (rdBytes (rdBytes s2 b2 4).2.1 (rdBytes s2 b2 4).2.2 k).1.data.toList).1).size).toList ≠ (bs (packR v (rdBytes (rdBytes s2 b2 4).2.1 (rdBytes s2 b2 4).2.2 k).1.data.toList).1).toList then (0, bs [], 0, false)
  else (v, (rdBytes (rdBytes s2 b2 4).2.1 (rdBytes s2 b2 4).2.2 k).1, (bs (packR v (rdBytes (rdBytes s2 b2 4).2.1 (rdBytes s2 b2 4).2.2 k).1.data.toList).1).size, true)

def nextQ (s : ByteArray) : Int × ByteArray × Int × Bool :=
  if beNum 0 (rdBytes s false 1).1.data.toList = 161 then
    nextQT s 1 (beNum 0 (rdBytes (rdBytes s false 1).2.1 (rdBytes s false 1).2.2 4).1.data.toList : Nat) (rdBytes (rdBytes s false 1).2.1 (rdBytes s false 1).2.2 4).2.1 (rdBytes (rdBytes s false 1).2.1 (rdBytes s false 1).2.2 4).2.2
  else
    nextQT s ((beNum 0 (rdBytes s false 1).1.data.toList : Nat) - 160 : Int) (rdVar (rdBytes s false 1).2.1 (rdBytes s false 1).2.2).1 (rdVar (rdBytes s false 1).2.1 (rdBytes s false 1).2.2).2.1 (rdVar (rdBytes s false 1).2.1 (rdBytes s false 1).2.2).2.2

theorem packR_size (v : Int) (l : List UInt8) (_h : l.length ≤ 9223372036854775807) : (bs (packR v l).1).size ≤ l.length + 15 := by
  rw [bs_size, packR]
  split
  · simp only [packL, headL, List.length_append, fixL_length _ _ (show 1 ≤ 8 by decide), fixL_length _ _ (show 4 ≤ 8 by decide)]
    have := lenL_size v l.length
    rw [bs_size] at this
    omega
  · simp

/-! ### Unpack, of both -/
def unpackOf (n : Int × ByteArray × Int × Bool) (size : Nat) : Int × ByteArray × Bool := if n.2.2.2 = false ∨ n.2.2.1 ≠ (size : Int) then (0, bs [], false) else (n.1, n.2.1, true)



end Go.Proofs.YtnnpjjehecbljaaGreatDoor

namespace Go.Proofs.YtnnpjjehecbljaaGreatDoor

theorem bs_nil_size : (bs []).size = 0 := rfl
theorem bs_extract (l : List UInt8) (a b : Nat) : (bs l).extract a b = bs ((l.take b).drop a) := by
  apply ByteArray.ext
  apply Array.toList_inj.1
  have h := Lib.extract_data (bs l) a b
  rw [bs_list] at h
  rw [h, bs_list, List.drop_take]

theorem rdBytes_bs (l : List UInt8) (n : Nat) : rdBytes (bs l) false n = if l.length < n then (bs [], bs [], true) else (bs (l.take n), bs (l.drop n), false) := by
  unfold rdBytes
  by_cases h : l.length < n
  · rw [if_pos (by right; right; rw [bs_size]; omega), if_pos h]; rfl
  · rw [if_neg (by rw [bs_size]; simp; omega), if_neg h, Int.toNat_natCast, bs_extract, bs_extract, bs_size]
    simp

theorem rdBytes_bad (s : ByteArray) (n : Int) : rdBytes s true n = (bs [], bs [], true) := by
  unfold rdBytes; rw [if_pos (.inl rfl)]; rfl

theorem rdVar_bs (l : List UInt8) (b : Bool) : rdVar (bs l) b = match varGo l 0 0 with | some (n, k) => ((n : Int), bs (l.drop k), b) | none => (0, bs [], true) := by
  unfold rdVar
  rw [bs_list]
  cases varGo l 0 0 with
  | none => rfl
  | some p =>
    obtain ⟨n, k⟩ := p
    dsimp only
    rw [bs_extract, bs_size]; simp

/-! ### numbers of seven bits a byte, on lists -/
theorem varGo_run (pre t : List UInt8) (hp : ∀ b ∈ pre, 128 ≤ b.toNat) : ∀ done : List UInt8, done.length + pre.length ≤ 10 → (∀ b ∈ done, 128 ≤ b.toNat) →
    varGo (pre ++ t) done.length (vval done % 18446744073709551616) = varGo t (done.length + pre.length) (vval (done ++ pre) % 18446744073709551616) := by
  induction pre with
  | nil => intro done _ _; simp
  | cons c pre ih =>
    intro done hl hd
    have hc := hp c (by simp)
    simp only [List.length_cons] at hl
    rw [List.cons_append, varGo, if_neg (by omega), if_pos hc]
    have hlt := vval_lt done
    have h2 : (128 : Nat) ^ done.length ≤ 128 ^ 9 := Nat.pow_le_pow_right (by decide) (by omega)
    have h3 : (128 : Nat) ^ 9 = 9223372036854775808 := by decide
    rw [Nat.mod_eq_of_lt (show vval done < 18446744073709551616 by omega), vS_val (by omega)]
    have h := ih (fun b hb => hp b (by simp [hb])) (done ++ [c]) (by simp; omega) (by
      intro b hb
      rcases List.mem_append.1 hb with h | h
      · exact hd b h
      · simp at h; subst h; exact hc)
    simp only [List.length_append, List.length_cons, List.length_nil, List.append_assoc, List.cons_append, List.nil_append] at h
    rw [Nat.zero_add] at h
    rw [h]
    congr 1
    simp only [List.length_cons]; omega

theorem varGo_pre (pre t : List UInt8) (hp : ∀ b ∈ pre, 128 ≤ b.toNat) (hl : pre.length ≤ 10) : varGo (pre ++ t) 0 0 = varGo t pre.length (vval pre % 18446744073709551616) := by
  have := varGo_run pre t hp [] (by simpa using hl) (by simp)
  simpa [vval] using this

theorem Own.split {l : List UInt8} (h : Own l) : ∃ pre c, l = pre ++ [c] ∧ (∀ b ∈ pre, 128 ≤ b.toNat) ∧ c.toNat < 128 := by
  induction h with
  | last c hc => exact ⟨[], c, rfl, by simp, hc⟩
  | more c r hc _ _ ih =>
    obtain ⟨pre, d, h1, h2, h3⟩ := ih
    refine ⟨c :: pre, d, by rw [h1]; rfl, ?_, h3⟩
    intro b hb
    rcases List.mem_cons.1 hb with h | h
    · subst h; exact hc
    · exact h2 b h

theorem pow10 : (18446744073709551616 : Nat) ≤ 128 ^ 10 := by decide

/-- What was put is read. -/
theorem varGo_put (n : Nat) (hn : n < 18446744073709551616) (t : List UInt8) : varGo (putL n ++ t) 0 0 = some (n, (putL n).length) := by
  have h10 := pow10
  obtain ⟨pre, c, h1, h2, h3⟩ := (own_put 9 n (by omega)).split
  have hl : pre.length ≤ 9 := by
    have := putL_length n
    rw [show putL n = pre ++ [c] from h1] at this
    simp at this; omega
  have hv : vval (pre ++ [c]) = n := by rw [← h1]; exact vval_put 10 n (by omega)
  have e : putL n = pre ++ [c] := h1
  rw [e, List.append_assoc, varGo_pre pre _ h2 (by omega)]
  have hlt := vval_lt pre
  have h4 : (128 : Nat) ^ pre.length ≤ 128 ^ 9 := Nat.pow_le_pow_right (by decide) hl
  have h5 : (128 : Nat) ^ 9 = 9223372036854775808 := by decide
  rw [Nat.mod_eq_of_lt (show vval pre < 18446744073709551616 by omega)]
  have hS := vS_val (c := c) hl
  rw [hv, Nat.mod_eq_of_lt hn] at hS
  have ht := (put_test hl h2 h3).1 (by rw [hS]; exact e)
  simp only [List.cons_append, List.nil_append]
  rw [varGo, if_neg (by omega), if_neg (by omega), if_neg ht, hS]
  simp

theorem varGo_some (l : List UInt8) : ∀ i n m k, varGo l i n = some (m, k) → ∃ pre c t, l = pre ++ c :: t ∧ (∀ b ∈ pre, 128 ≤ b.toNat) ∧ c.toNat < 128 ∧ k = i + pre.length + 1 ∧ i + pre.length ≤ 9 := by
  induction l with
  | nil => intro i n m k h; simp [varGo] at h
  | cons c l ih =>
    intro i n m k h
    rw [varGo] at h
    by_cases h10 : 10 ≤ i
    · rw [if_pos h10] at h; cases h
    · rw [if_neg h10] at h
      by_cases hc : 128 ≤ c.toNat
      · rw [if_pos hc] at h
        obtain ⟨pre, d, t, h1, h2, h3, h4, h5⟩ := ih _ _ _ _ h
        refine ⟨c :: pre, d, t, by rw [h1]; rfl, ?_, h3, by simp; omega, by simp; omega⟩
        intro b hb
        rcases List.mem_cons.1 hb with h | h
        · subst h; exact hc
        · exact h2 b h
      · rw [if_neg hc] at h
        split at h
        · cases h
        · cases h
          exact ⟨[], c, l, rfl, by simp, by omega, by simp, by simp; omega⟩

/-- What is read was put. -/
theorem varGo_was {l : List UInt8} {n k : Nat} (h : varGo l 0 0 = some (n, k)) : l = putL n ++ l.drop k ∧ k = (putL n).length ∧ n < 18446744073709551616 := by
  obtain ⟨pre, c, t, h1, h2, h3, h4, h5⟩ := varGo_some l 0 0 n k h
  have hn := varGo_lt l 0 0 (by decide) n k h
  have hl : pre.length ≤ 9 := by omega
  have hlt := vval_lt pre
  have h6 : (128 : Nat) ^ pre.length ≤ 128 ^ 9 := Nat.pow_le_pow_right (by decide) hl
  have h7 : (128 : Nat) ^ 9 = 9223372036854775808 := by decide
  rw [h1, varGo_pre pre _ h2 (by omega), Nat.mod_eq_of_lt (show vval pre < 18446744073709551616 by omega), varGo, if_neg (by omega), if_neg (by omega)] at h
  by_cases hb : (0 < pre.length ∧ c.toNat = 0) ∨ (pre.length = 9 ∧ 1 < c.toNat)
  · rw [if_pos hb] at h; cases h
  · rw [if_neg hb] at h
    have hm : vS (vval pre) c.toNat pre.length = n := by simpa using congrArg (fun o => (o.map Prod.fst).getD 0) h
    have hp := (put_test hl h2 h3).2 hb
    rw [hm] at hp
    refine ⟨?_, by rw [hp]; simp; omega, hn⟩
    rw [hp, h1, h4]
    have : (pre ++ c :: t).drop (0 + pre.length + 1) = t := by
      rw [show 0 + pre.length + 1 = pre.length + 1 from by omega, ← List.drop_drop]
      simp
    rw [this]; simp

/-! ### numbers of four bytes, of one byte -/
theorem fixL_one (n : Nat) (h : n < 256) : fixL n 1 = [UInt8.ofNat n] := by
  have e : List.drop (8 - 1) (List.range 8) = [7] := rfl
  have h7 : fixB (n : Int) 7 = (n : Int) := by unfold fixB; simp; omega
  unfold fixL
  rw [e]
  simp only [List.map_cons, List.map_nil, h7, Int.toNat_natCast]

theorem fixL_four (n : Nat) : fixL n 4 = [UInt8.ofNat (n / 16777216 % 256), UInt8.ofNat (n / 65536 % 256), UInt8.ofNat (n / 256 % 256), UInt8.ofNat (n % 256)] := by
  have e : List.drop (8 - 4) (List.range 8) = [4, 5, 6, 7] := rfl
  have h4 : fixB (n : Int) 4 = ((n / 16777216 % 256 : Nat) : Int) := by unfold fixB; simp
  have h5 : fixB (n : Int) 5 = ((n / 65536 % 256 : Nat) : Int) := by unfold fixB; simp
  have h6 : fixB (n : Int) 6 = ((n / 256 % 256 : Nat) : Int) := by unfold fixB; simp
  have h7 : fixB (n : Int) 7 = ((n % 256 : Nat) : Int) := by unfold fixB; simp
  unfold fixL
  rw [e]
  simp only [List.map_cons, List.map_nil, h4, h5, h6, h7, Int.toNat_natCast]

theorem beNum_four (a b c d : UInt8) : beNum 0 [a, b, c, d] = a.toNat * 16777216 + b.toNat * 65536 + c.toNat * 256 + d.toNat := by
  have := a.toNat_lt; have := b.toNat_lt; have := c.toNat_lt; have := d.toNat_lt
  simp only [beNum, List.foldl_cons, List.foldl_nil, beStep]
  omega

theorem beNum_fix4 (n : Nat) (h : n < 4294967296) : beNum 0 (fixL n 4) = n := by
  rw [fixL_four, beNum_four]
  simp
  omega

theorem fix4_beNum (l : List UInt8) (h : l.length = 4) : fixL (beNum 0 l : Nat) 4 = l := by
  match l, h with
  | [a, b, c, d], _ =>
    have ha := a.toNat_lt; have hb := b.toNat_lt; have hc := c.toNat_lt; have hd := d.toNat_lt
    rw [beNum_four, fixL_four]
    have h1 : (a.toNat * 16777216 + b.toNat * 65536 + c.toNat * 256 + d.toNat) / 16777216 % 256 = a.toNat := by omega
    have h2 : (a.toNat * 16777216 + b.toNat * 65536 + c.toNat * 256 + d.toNat) / 65536 % 256 = b.toNat := by omega
    have h3 : (a.toNat * 16777216 + b.toNat * 65536 + c.toNat * 256 + d.toNat) / 256 % 256 = c.toNat := by omega
    have h4 : (a.toNat * 16777216 + b.toNat * 65536 + c.toNat * 256 + d.toNat) % 256 = d.toNat := by omega
    rw [h1, h2, h3, h4]
    simp

theorem beNum_one' (c : UInt8) : beNum 0 [c] = c.toNat := by
  have := c.toNat_lt
  simp only [beNum, List.foldl_cons, List.foldl_nil, beStep]
  omega

end Go.Proofs.YtnnpjjehecbljaaGreatDoor
