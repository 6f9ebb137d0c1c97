/-
  entry.fit: the contract.
-/
import Derived.Test.YtnnpjjehecbljaaDoorFEnt2
namespace Go.Proofs.YtnnpjjehecbljaaDoor
open Go.RowKit

structure Fld where
  c : UInt8
  there : Bool
  right : Bool
def Fld.cells (f : Fld) : Array Value := #[.string ⟨#[f.c]⟩, .bool f.there, .bool f.right]
def hasB (may : ByteArray) (c : UInt8) : Bool := decide (0 ≤ Lib.indexByte may.data.toList c)
/-- A field is not as it may be. -/
def Fld.bad (may : ByteArray) (f : Fld) : Bool := if hasB may f.c = true then !f.right else f.there
def fitB (may : ByteArray) (l : List Fld) : Bool := !(l.any (Fld.bad may))

set_option maxHeartbeats 1000000 in
theorem eFit1 (may : ByteArray) (m : Nat) (f : Fld) (w : World) (hm : Blk w m #[.string may] 9) :
    Calls Tryd.prog 53 #[.agg f.cells, .pointer (some ⟨m, 0, none⟩)] w fun r w' => r = .returned (.bool (f.bad may)) ∧ Fr [] w w' := by
  unfold Fld.cells Fld.bad
  have hlt := hm.lt
  have cm := hm.cellAt (i := 0) rfl
  have cm2 : ∀ o, (w.alloc o).cell? ⟨m, 0, none⟩ = some (.string may) := fun o => (hm.alloc o).cellAt (i := 0) rfl
  have Hc := Lib.hid (show ∀ w, Calls Tryd.prog 54 #[.string may, .string ⟨#[f.c]⟩] w fun e w' => e = .returned (.bool (hasB may f.c)) ∧ w' = w from fun w => Tryd.strings_Contains_one may f.c w)
  generalize hasB may f.c = hb at *
  go_enter Tryd.func53, Tryd.ntmps53
  go_wp2_with fail
  refine (Hc.out _).mono ?_
  rintro r w2 ⟨rfl, rfl⟩
  cases hb with
  | true =>
    go_wp2_with fail
    go_ret
    exact ⟨by simp, (Fr.refl _ _).alloc _⟩
  | false =>
    go_wp2_with fail
    go_ret
    exact ⟨by simp, (Fr.refl _ _).alloc _⟩

def Flds (w : World) (b o : Nat) (l : List Fld) : Prop := b < w.heap.size ∧ ∀ j (hj : j < l.length) i, i < 3 → w.cell? ⟨b, o + j * 3 + i, none⟩ = l[j].cells[i]?

theorem Flds.fr0 {w w' : World} {b o : Nat} {l : List Fld} (h : Flds w b o l) (hf : Fr [] w w') : Flds w' b o l :=
  ⟨Nat.lt_of_lt_of_le h.1 hf.size, fun j hj i hi => (World.cell?_of_block (w := w) (hf.block b h.1 (by simp))).trans (h.2 j hj i hi)⟩

set_option maxRecDepth 100000 in
set_option maxHeartbeats 1000000 in
theorem iIndexFld (may : ByteArray) (m b o c : Nat) (l : List Fld) (w : World) (hm : Blk w m #[.string may] 9) (hv : Flds w b o l) (hl : l.length ≤ maxLen) :
    Calls Tryd.prog 72 #[.slice (some ⟨b, o, none⟩) l.length c, .func (.func 53) #[] #[.pointer (some ⟨m, 0, none⟩)]] w fun r w' => r = .returned (.int .i64 (idxG (Fld.bad may) l 0)) ∧ Fr [] w w' := by
  unfold maxLen at hl
  have HV := Lib.hid hv
  have HM := Lib.hid hm
  clear hv hm
  go_enter Tryd.func72, Tryd.ntmps72
  go_wp2_with fail
  go_loopw [5, 8] (fun _ i wr => ∃ k : Nat, k ≤ l.length ∧ i = .int .i64 k ∧ Hid (idxG (Fld.bad may) l 0 = idxG (Fld.bad may) (l.drop k) k) ∧ Hid (Fr [] w wr)) (fun _ i _ => l.length - (intOf i).toNat)
  case atStart => exact ⟨0, by omega, rfl, rfl, Fr.refl _ _⟩
  case round =>
    obtain ⟨k, hk, rfl, HI, HR⟩ := hrel
    by_cases hlt : k < l.length
    · have hcl := (HV.out.fr0 HR.out).2 k hlt
      have Hno := Lib.hid (idxG_no (Fld.bad may) hlt)
      have Hyes := Lib.hid (idxG_yes (Fld.bad may) hlt)
      have HMr : Hid (Blk wr m #[.string may] 9) := HM.out.fr0 HR.out
      generalize l[k] = e at *
      have d0 := hcl 0 (by decide)
      have d1 := hcl 1 (by decide)
      have d2 := hcl 2 (by decide)
      have Hcall := Lib.hid (eFit1 may m e wr HMr.out)
      rw [Nat.add_zero] at d0
      generalize hp : e.bad may = pb at *
      have Hp := Lib.hid hp
      simp only [Fld.cells] at d0 d1 d2 Hcall
      clear hcl hp
      go_wp2_with fail
      refine Hcall.out.mono ?_
      rintro r w2 ⟨rfl, g2⟩
      cases pb with
      | true =>
        clear d0 d1 d2
        go_wp2_with fail
        go_ret
        exact ⟨ret_int (by rw [HI.out, Hyes.out trivial]), HR.out.trans0 g2⟩
      | false =>
        clear d0 d1 d2
        go_wp2_with fail
        go_roundw
        case rel => exact ⟨k + 1, by omega, by go_num, HI.out.trans (Hno.out trivial), HR.out.trans0 g2⟩
        case measure => simp [intOf]; omega
    · go_wp2_with fail
      go_ret
      exact ⟨ret_int (by rw [HI.out, idxG_end _ (by omega)]), HR.out⟩

set_option maxHeartbeats 1000000 in
theorem iContFld (may : ByteArray) (m b o c : Nat) (l : List Fld) (w : World) (hm : Blk w m #[.string may] 9) (hv : Flds w b o l) (hl : l.length ≤ maxLen) :
    Calls Tryd.prog 52 #[.slice (some ⟨b, o, none⟩) l.length c, .func (.func 53) #[] #[.pointer (some ⟨m, 0, none⟩)]] w fun r w' => r = .returned (.bool (l.any (Fld.bad may))) ∧ Fr [] w w' := by
  have hi := Lib.hid (iIndexFld may m b o c l w hm hv hl)
  have ha := Lib.hid (idxG_any (Fld.bad may) l 0)
  clear hm hv
  generalize idxG (Fld.bad may) l 0 = x at *
  generalize l.any (Fld.bad may) = y at *
  generalize l.length = n at *
  go_enter Tryd.func52, Tryd.ntmps52
  go_wp2_with fail
  refine hi.out.mono ?_
  rintro r w2 ⟨rfl, g2⟩
  go_wp2_with fail
  go_ret
  exact ⟨ret_bool ha.out, g2⟩

set_option maxHeartbeats 1000000 in
theorem eFit (may : ByteArray) (b o c : Nat) (l : List Fld) (w : World) (hv : Flds w b o l) (hl : l.length ≤ maxLen) :
    Calls Tryd.prog 35 #[.string may, .slice (some ⟨b, o, none⟩) l.length c] w fun r w' => r = .returned (.bool (fitB may l)) ∧ Fr [] w w' := by
  have hmf : ∀ (fn : Fn) (first cap : Array Value) (w : World), (Instr.makeFunc fn first cap).run Tryd.prog w = .ok (.func fn first cap) w := fun _ _ _ _ => rfl
  have hc := Lib.hid (iContFld may w.heap.size b o c l (w.alloc (.cells #[.string may] 9)) (Blk.new _ _ _) (hv.fr0 ((Fr.refl _ _).alloc _)) hl)
  unfold fitB
  clear hv
  generalize l.any (Fld.bad may) = y at *
  generalize l.length = n at *
  go_enter Tryd.func35, Tryd.ntmps35
  go_wp2_with fail
  refine hc.out.mono ?_
  rintro r w2 ⟨rfl, g2⟩
  go_wp2_with fail
  go_ret
  exact ⟨rfl, ((Fr.refl _ _).alloc _).trans0 g2⟩
end Go.Proofs.YtnnpjjehecbljaaDoor
