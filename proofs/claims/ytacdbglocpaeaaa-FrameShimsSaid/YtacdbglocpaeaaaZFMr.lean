/-
  Texts of this seat, joined: FMr.
-/
import Derived.Test.YtacdbglocpaeaaaZFMr1
import Derived.Test.YtacdbglocpaeaaaZFMr4
set_option linter.unusedSimpArgs false
set_option linter.unusedVariables false
namespace Go.Proofs.Ytacdbglocpaeaaa
open Go.RowKit

theorem eMsgRight (m : Msg) (v : Value) (w : World) (hf : m.Fits) (hv : Ents w v m.ents) : Calls Try.prog 38 #[.agg (m.cells v)] w fun r w' => r = .returned (.bool m.ok) ∧ Fr [] w w' := by
  cases hok : (msgMay m.kind).2 with
  | false => exact eMr3 m v w hf hv hok
  | true =>
    cases h2 : nodeB m.sent with
    | false => exact eMr4 m v w hf hv hok h2
    | true =>
      cases h3 : nodeB m.goal with
      | false => exact eMr5 m v w hf hv hok h2 h3
      | true =>
        by_cases h4 : m.ents.length ≤ 64
        · exact eMr1 m v w hf hv hok h2 h3 h4
        · exact eMr2 m v w hf hv hok h2 h3 h4

def Msg.lvl (m : Msg) : Int := if m.kind = 9 ∨ m.kind = 10 ∨ m.ents.any (fun e => e.lvl == 2) = true then 2 else 1

theorem eAnyTwo (m : Msg) (v : Value) (w : World) (hm : m.Fits) (hv : Ents w v m.ents) :
    Calls Try.prog 52 #[v, .func (.func 55) #[] #[]] w fun r w' => r = .returned (.bool (m.ents.any (fun e => e.lvl == 2))) ∧ Fr [] w w' :=
  iContEnt 55 (fun e => e.lvl == 2) m.ents v w goes55 (fun e _ w => eMsgLevel1 e w) hv hm.many

set_option maxHeartbeats 2000000 in
theorem eMsgLevel (m : Msg) (v : Value) (w : World) (hm : m.Fits) (hv : Ents w v m.ents) : Calls Try.prog 39 #[.agg (m.cells v)] w fun r w' => r = .returned (.int .i64 m.lvl) ∧ Fr [] w w' := by
  have HA := Lib.hid (fun w1 (hv : Ents w1 v m.ents) => eAnyTwo m v w1 hm hv)
  have HV := Lib.hid (hv.fr0 ((Fr.refl [] w).alloc (.cells (m.cells v) 35)))
  unfold Msg.lvl Msg.cells at *
  clear hv hm
  by_cases h9 : m.kind = 9
  · have e9 : (m.kind == 9) = true := by simpa using h9
    rw [if_pos (.inl h9)]
    clear h9
    go_enter Try.func39, Try.ntmps39
    go_wp2_with fail
    go_ret
    exact ⟨rfl, (Fr.refl _ _).alloc _⟩
  · have e9 : (m.kind == 9) = false := by simpa using h9
    by_cases h10 : m.kind = 10
    · have e10 : (m.kind == 10) = true := by simpa using h10
      rw [if_pos (.inr (.inl h10))]
      clear h9 h10
      go_enter Try.func39, Try.ntmps39
      go_wp2_with fail
      go_ret
      exact ⟨rfl, (Fr.refl _ _).alloc _⟩
    · have e10 : (m.kind == 10) = false := by simpa using h10
      cases hb : m.ents.any (fun e => e.lvl == 2) with
      | true =>
        rw [hb] at HA
        rw [if_pos (.inr (.inr rfl))]
        clear h9 h10 hb
        go_enter Try.func39, Try.ntmps39
        go_wp2_with (go_at_call 52; refine (HA.out _ HV.out).mono ?_; rintro r w2 ⟨rfl, f2⟩)
        go_ret
        exact ⟨rfl, ((Fr.refl _ _).alloc _).trans0 f2⟩
      | false =>
        rw [hb] at HA
        rw [if_neg (by simp [h9, h10])]
        clear h9 h10 hb
        go_enter Try.func39, Try.ntmps39
        go_wp2_with (go_at_call 52; refine (HA.out _ HV.out).mono ?_; rintro r w2 ⟨rfl, f2⟩)
        go_ret
        exact ⟨rfl, ((Fr.refl _ _).alloc _).trans0 f2⟩
end Go.Proofs.Ytacdbglocpaeaaa
