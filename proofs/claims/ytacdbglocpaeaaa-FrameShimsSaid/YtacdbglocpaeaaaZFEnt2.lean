/-
  Texts of this seat, joined: FEnt2 FFit.
-/
import Derived.Test.YtacdbglocpaeaaaZFEnt
import Derived.Test.YtacdbglocpaeaaaZFShelf
import Derived.Deep.QuietTactic
import Derived.BigQuiet
import Derived.Deep.RegionHeld3
set_option linter.unusedSimpArgs false
set_option linter.unusedVariables false
namespace Go.Proofs.Ytacdbglocpaeaaa
open Go.RowKit

def Ent.lvl (e : Ent) : Int := if e.kind = 11 then 2 else 1

set_option maxHeartbeats 400000 in
theorem eLevel (e : Ent) (w : World) : Calls Try.prog 56 #[.agg e.cells] w fun r w' => r = .returned (.int .i64 e.lvl) ∧ Fr [] w w' := by
  unfold Ent.cells Ent.lvl
  by_cases h : e.kind = 11
  · have h2 : (e.kind == 11) = true := by simpa using h
    rw [if_pos h]
    clear h
    go_enter Try.func56, Try.ntmps56
    go_wp2
    go_ret
    exact ⟨rfl, (Fr.refl _ _).alloc _⟩
  · have h2 : (e.kind == 11) = false := by simpa using h
    rw [if_neg h]
    clear h
    go_enter Try.func56, Try.ntmps56
    go_wp2
    go_ret
    exact ⟨rfl, (Fr.refl _ _).alloc _⟩

set_option maxHeartbeats 400000 in
theorem eMsgLevel1 (e : Ent) (w : World) : Calls Try.prog 55 #[.agg e.cells] w fun r w' => r = .returned (.bool (e.lvl == 2)) ∧ Fr [] w w' := by
  have h := eLevel e
  unfold Ent.cells at *
  go_enter Try.func55, Try.ntmps55
  go_wp2_with (go_at_call 56; refine (h _).mono ?_; rintro e w' ⟨rfl, h1⟩)
  go_ret
  exact ⟨rfl, ((Fr.refl _ _).alloc _).trans0 h1⟩

/-- What a function of entries that answers a bool is worth. -/
def Asks (F : FuncId) (p : Ent → Bool) (l : List Ent) : Prop := ∀ e, e ∈ l → ∀ w, Calls Try.prog F #[.agg e.cells] w fun r w' => r = .returned (.bool (p e)) ∧ Fr [] w w'

/-- The function has a body that can be entered. -/
def Goes (F : FuncId) : Prop := ∀ args w, (callFunc F args).run Try.prog w = .ok (.enter F args) w

def idxG {α : Type} (p : α → Bool) : List α → Nat → Int
  | [], _ => -1
  | x :: r, k => if p x = true then (k : Int) else idxG p r (k + 1)

theorem idxG_ge {α : Type} (p : α → Bool) (l : List α) : ∀ k, idxG p l k = -1 ∨ (k : Int) ≤ idxG p l k := by
  induction l with
  | nil => intro k; exact .inl rfl
  | cons x r ih =>
    intro k
    rw [idxG]
    split
    · right; omega
    · rcases ih (k + 1) with h | h
      · exact .inl h
      · right; omega

theorem idxG_any {α : Type} (p : α → Bool) (l : List α) : ∀ k, decide (0 ≤ idxG p l k) = l.any p := by
  induction l with
  | nil => intro k; rfl
  | cons x r ih =>
    intro k
    rw [idxG, List.any_cons]
    by_cases h : p x = true
    · simp [h]
    · rw [if_neg h, ih]; simp [h]

theorem idxG_no {α : Type} (p : α → Bool) {l : List α} {k : Nat} (h : k < l.length) (hp : p l[k] = false) : idxG p (l.drop k) k = idxG p (l.drop (k + 1)) (k + 1) := by
  rw [List.drop_eq_getElem_cons h, idxG, if_neg (by simp [hp])]

theorem idxG_yes {α : Type} (p : α → Bool) {l : List α} {k : Nat} (h : k < l.length) (hp : p l[k] = true) : idxG p (l.drop k) k = k := by
  rw [List.drop_eq_getElem_cons h, idxG, if_pos hp]

theorem idxG_end {α : Type} (p : α → Bool) {l : List α} {k : Nat} (h : l.length ≤ k) : idxG p (l.drop k) k = -1 := by
  rw [List.drop_eq_nil_of_le h]; rfl

set_option maxRecDepth 100000 in
set_option maxHeartbeats 1000000 in
theorem iIndexEnt (F : FuncId) (p : Ent → Bool) (l : List Ent) (v : Value) (w : World) (hG : Goes F) (hF : Asks F p l) (hv : Ents w v l) (hl : l.length ≤ maxLen) :
    Calls Try.prog 65 #[v, .func (.func F) #[] #[]] w fun r w' => r = .returned (.int .i64 (idxG p l 0)) ∧ Fr [] w w' := by
  unfold maxLen at hl
  have HF := Lib.hid hF
  unfold Goes at hG
  clear hF
  rcases hv with ⟨rfl, a, c, rfl⟩ | ⟨b, o, c, rfl, hb, hcell⟩
  · go_enter Try.func65, Try.ntmps65
    go_wp2_with fail
    refine wp_loop_rounds 1 ?_
    rw [rounds_succ]
    go_wp2_with fail
    go_ret
    exact ⟨rfl, Fr.refl _ _⟩
  · have HC := Lib.hid hcell
    clear hcell
    go_enter Try.func65, Try.ntmps65
    go_wp2_with fail
    go_loopw [5, 8] (fun _ i wr => ∃ k : Nat, k ≤ l.length ∧ i = .int .i64 k ∧ Hid (idxG p l 0 = idxG p (l.drop k) k) ∧ Hid (Fr [] w wr)) (fun _ i _ => l.length - (intOf i).toNat)
    case atStart => exact ⟨0, by omega, rfl, rfl, Fr.refl _ _⟩
    case round =>
      obtain ⟨k, hk, rfl, HI, HR⟩ := hrel
      by_cases hlt : k < l.length
      · have hcl : ∀ i, i < 11 → wr.cell? ⟨b, o + k * 11 + i, none⟩ = l[k].cells[i]? := fun i hi => (World.cell?_of_block (w := w) (HR.out.block b hb (by simp))).trans (HC.out k hlt i hi)
        have Hno := Lib.hid (idxG_no p hlt)
        have Hyes := Lib.hid (idxG_yes p hlt)
        have Hcall := Lib.hid (HF.out l[k] (List.getElem_mem hlt))
        generalize l[k] = e at *
        have d0 := hcl 0 (by decide)
        have d1 := hcl 1 (by decide)
        have d2 := hcl 2 (by decide)
        have d3 := hcl 3 (by decide)
        have d4 := hcl 4 (by decide)
        have d5 := hcl 5 (by decide)
        have d6 := hcl 6 (by decide)
        have d7 := hcl 7 (by decide)
        have d8 := hcl 8 (by decide)
        have d9 := hcl 9 (by decide)
        have d10 := hcl 10 (by decide)
        rw [Nat.add_zero] at d0
        simp only [Ent.cells] at d0 d1 d2 d3 d4 d5 d6 d7 d8 d9 d10 Hcall
        clear hcl
        go_wp2_with fail
        refine (Hcall.out _).mono ?_
        rintro r w2 ⟨rfl, g2⟩
        cases hp : p e with
        | true =>
          have Hp := Lib.hid hp
          clear hp d0 d1 d2 d3 d4 d5 d6 d7 d8 d9 d10
          go_wp2_with fail
          go_ret
          exact ⟨ret_int (by rw [HI.out, Hyes.out Hp.out]), HR.out.trans0 g2⟩
        | false =>
          have Hp := Lib.hid hp
          clear hp d0 d1 d2 d3 d4 d5 d6 d7 d8 d9 d10
          go_wp2_with fail
          go_roundw
          case rel => exact ⟨k + 1, by omega, by go_num, HI.out.trans (Hno.out Hp.out), HR.out.trans0 g2⟩
          case measure => simp [intOf]; omega
      · go_wp2_with fail
        go_ret
        exact ⟨ret_int (by rw [HI.out, idxG_end p (by omega)]), HR.out⟩
set_option maxHeartbeats 1000000 in
theorem iContEnt (F : FuncId) (p : Ent → Bool) (l : List Ent) (v : Value) (w : World) (hG : Goes F) (hF : Asks F p l) (hv : Ents w v l) (hl : l.length ≤ maxLen) :
    Calls Try.prog 52 #[v, .func (.func F) #[] #[]] w fun r w' => r = .returned (.bool (l.any p)) ∧ Fr [] w w' := by
  have hi := Lib.hid (iIndexEnt F p l v w hG hF hv hl)
  have ha := Lib.hid (idxG_any p l 0)
  clear hF hv
  generalize idxG p l 0 = x at *
  go_enter Try.func52, Try.ntmps52
  go_wp2_with fail
  refine hi.out.mono ?_
  rintro r w2 ⟨rfl, g2⟩
  go_wp2_with fail
  go_ret
  exact ⟨ret_bool ha.out, g2⟩
end Go.Proofs.Ytacdbglocpaeaaa

namespace Go.Proofs.Ytacdbglocpaeaaa
open Go.RowKit

structure Fld where
  c : UInt8
  there : Bool
  right : Bool
def Fld.cells (f : Fld) : Array Value := #[.string ⟨#[f.c]⟩, .bool f.there, .bool f.right]
def hasB (may : ByteArray) (c : UInt8) : Bool := decide (0 ≤ Lib.indexByte may.data.toList c)
/-- A field is not as it may be. -/
def Fld.bad (may : ByteArray) (f : Fld) : Bool := if hasB may f.c = true then !f.right else f.there
def fitB (may : ByteArray) (l : List Fld) : Bool := !(l.any (Fld.bad may))

set_option maxHeartbeats 1000000 in
theorem eFit1 (may : ByteArray) (m : Nat) (f : Fld) (w : World) (hm : Blk w m #[.string may] 9) :
    Calls Try.prog 63 #[.agg f.cells, .pointer (some ⟨m, 0, none⟩)] w fun r w' => r = .returned (.bool (f.bad may)) ∧ Fr [] w w' := by
  unfold Fld.cells Fld.bad
  have hlt := hm.lt
  have cm := hm.cellAt (i := 0) rfl
  have cm2 : ∀ o, (w.alloc o).cell? ⟨m, 0, none⟩ = some (.string may) := fun o => (hm.alloc o).cellAt (i := 0) rfl
  have Hc := Lib.hid (show ∀ w, Calls Try.prog 64 #[.string may, .string ⟨#[f.c]⟩] w fun e w' => e = .returned (.bool (hasB may f.c)) ∧ w' = w from fun w => Try.strings_Contains_one may f.c w)
  generalize hasB may f.c = hb at *
  go_enter Try.func63, Try.ntmps63
  go_wp2_with fail
  refine (Hc.out _).mono ?_
  rintro r w2 ⟨rfl, rfl⟩
  cases hb with
  | true =>
    go_wp2_with fail
    go_ret
    exact ⟨by simp, (Fr.refl _ _).alloc _⟩
  | false =>
    go_wp2_with fail
    go_ret
    exact ⟨by simp, (Fr.refl _ _).alloc _⟩

def Flds (w : World) (b o : Nat) (l : List Fld) : Prop := b < w.heap.size ∧ ∀ j (hj : j < l.length) i, i < 3 → w.cell? ⟨b, o + j * 3 + i, none⟩ = l[j].cells[i]?

theorem Flds.fr0 {w w' : World} {b o : Nat} {l : List Fld} (h : Flds w b o l) (hf : Fr [] w w') : Flds w' b o l :=
  ⟨Nat.lt_of_lt_of_le h.1 hf.size, fun j hj i hi => (World.cell?_of_block (w := w) (hf.block b h.1 (by simp))).trans (h.2 j hj i hi)⟩

set_option maxRecDepth 100000 in
set_option maxHeartbeats 1000000 in
theorem iIndexFld (may : ByteArray) (m b o c : Nat) (l : List Fld) (w : World) (hm : Blk w m #[.string may] 9) (hv : Flds w b o l) (hl : l.length ≤ maxLen) :
    Calls Try.prog 68 #[.slice (some ⟨b, o, none⟩) l.length c, .func (.func 63) #[] #[.pointer (some ⟨m, 0, none⟩)]] w fun r w' => r = .returned (.int .i64 (idxG (Fld.bad may) l 0)) ∧ Fr [] w w' := by
  unfold maxLen at hl
  have HV := Lib.hid hv
  have HM := Lib.hid hm
  clear hv hm
  go_enter Try.func68, Try.ntmps68
  go_wp2_with fail
  go_loopw [5, 8] (fun _ i wr => ∃ k : Nat, k ≤ l.length ∧ i = .int .i64 k ∧ Hid (idxG (Fld.bad may) l 0 = idxG (Fld.bad may) (l.drop k) k) ∧ Hid (Fr [] w wr)) (fun _ i _ => l.length - (intOf i).toNat)
  case atStart => exact ⟨0, by omega, rfl, rfl, Fr.refl _ _⟩
  case round =>
    obtain ⟨k, hk, rfl, HI, HR⟩ := hrel
    by_cases hlt : k < l.length
    · have hcl := (HV.out.fr0 HR.out).2 k hlt
      have Hno := Lib.hid (idxG_no (Fld.bad may) hlt)
      have Hyes := Lib.hid (idxG_yes (Fld.bad may) hlt)
      have HMr : Hid (Blk wr m #[.string may] 9) := HM.out.fr0 HR.out
      generalize l[k] = e at *
      have d0 := hcl 0 (by decide)
      have d1 := hcl 1 (by decide)
      have d2 := hcl 2 (by decide)
      have Hcall := Lib.hid (eFit1 may m e wr HMr.out)
      rw [Nat.add_zero] at d0
      generalize hp : e.bad may = pb at *
      have Hp := Lib.hid hp
      simp only [Fld.cells] at d0 d1 d2 Hcall
      clear hcl hp
      go_wp2_with fail
      refine Hcall.out.mono ?_
      rintro r w2 ⟨rfl, g2⟩
      cases pb with
      | true =>
        clear d0 d1 d2
        go_wp2_with fail
        go_ret
        exact ⟨ret_int (by rw [HI.out, Hyes.out trivial]), HR.out.trans0 g2⟩
      | false =>
        clear d0 d1 d2
        go_wp2_with fail
        go_roundw
        case rel => exact ⟨k + 1, by omega, by go_num, HI.out.trans (Hno.out trivial), HR.out.trans0 g2⟩
        case measure => simp [intOf]; omega
    · go_wp2_with fail
      go_ret
      exact ⟨ret_int (by rw [HI.out, idxG_end _ (by omega)]), HR.out⟩

set_option maxHeartbeats 1000000 in
theorem iContFld (may : ByteArray) (m b o c : Nat) (l : List Fld) (w : World) (hm : Blk w m #[.string may] 9) (hv : Flds w b o l) (hl : l.length ≤ maxLen) :
    Calls Try.prog 62 #[.slice (some ⟨b, o, none⟩) l.length c, .func (.func 63) #[] #[.pointer (some ⟨m, 0, none⟩)]] w fun r w' => r = .returned (.bool (l.any (Fld.bad may))) ∧ Fr [] w w' := by
  have hi := Lib.hid (iIndexFld may m b o c l w hm hv hl)
  have ha := Lib.hid (idxG_any (Fld.bad may) l 0)
  clear hm hv
  generalize idxG (Fld.bad may) l 0 = x at *
  generalize l.any (Fld.bad may) = y at *
  generalize l.length = n at *
  go_enter Try.func62, Try.ntmps62
  go_wp2_with fail
  refine hi.out.mono ?_
  rintro r w2 ⟨rfl, g2⟩
  go_wp2_with fail
  go_ret
  exact ⟨ret_bool ha.out, g2⟩

set_option maxHeartbeats 1000000 in
theorem eFit (may : ByteArray) (b o c : Nat) (l : List Fld) (w : World) (hv : Flds w b o l) (hl : l.length ≤ maxLen) :
    Calls Try.prog 51 #[.string may, .slice (some ⟨b, o, none⟩) l.length c] w fun r w' => r = .returned (.bool (fitB may l)) ∧ Fr [] w w' := by
  have hmf : ∀ (fn : Fn) (first cap : Array Value) (w : World), (Instr.makeFunc fn first cap).run Try.prog w = .ok (.func fn first cap) w := fun _ _ _ _ => rfl
  have hc := Lib.hid (iContFld may w.heap.size b o c l (w.alloc (.cells #[.string may] 9)) (Blk.new _ _ _) (hv.fr0 ((Fr.refl _ _).alloc _)) hl)
  unfold fitB
  clear hv
  generalize l.any (Fld.bad may) = y at *
  generalize l.length = n at *
  go_enter Try.func51, Try.ntmps51
  go_wp2_with fail
  refine hc.out.mono ?_
  rintro r w2 ⟨rfl, g2⟩
  go_wp2_with fail
  go_ret
  exact ⟨rfl, ((Fr.refl _ _).alloc _).trans0 g2⟩
end Go.Proofs.Ytacdbglocpaeaaa
