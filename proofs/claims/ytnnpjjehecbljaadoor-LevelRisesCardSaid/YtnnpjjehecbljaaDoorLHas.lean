/-
  level: Has, Quorum, May: contracts.
-/
import Derived.Test.YtnnpjjehecbljaaDoorLOp1
import Derived.Test.YtnnpjjehecbljaaDoorLRt
namespace Go.Proofs.YtnnpjjehecbljaaDoor
open Go.RowKit

set_option maxHeartbeats 1000000 in
theorem lHas (gm cm gh ch : Nat) (c : Cfg) (x : Int) (w : World) (h : Cf w gm cm gh ch c) (h4 : c.M.length ≤ 4096) :
    Calls Tryd.prog 10 #[.agg (cfC gm cm gh ch c), .int .i64 x] w fun e w' => e = .returned (.bool (c.M.contains x)) ∧ Fr [] w w' := by
  have HC := Lib.hid (fun o => sContains gm cm c.M x (w.alloc o) (h.1.alloc o) h4 _ rfl)
  unfold cfC ivV
  clear h
  generalize c.M.contains x = b at *
  have HF := Lib.hid (fun o => (Fr.refl [] w).alloc o)
  go_enter Tryd.func10, Tryd.ntmps10
  go_wp2_with (go_at_call 27; refine (HC.out _).mono ?_; rintro r w1 ⟨rfl, rfl⟩)
  go_ret
  exact ⟨rfl, HF.out _⟩
set_option maxHeartbeats 1000000 in
theorem lQuorum (gm cm gh ch : Nat) (c : Cfg) (w : World) (h4 : c.M.length ≤ 4096) :
    Calls Tryd.prog 12 #[.agg (cfC gm cm gh ch c)] w fun e w' => e = .returned (.int .i64 ((c.M.length : Int) / 2 + 1)) ∧ Fr [] w w' := by
  unfold cfC ivV
  have HF := Lib.hid (fun o => (Fr.refl [] w).alloc o)
  generalize c.M.length = n at *
  have hw1 : IntKind.i64.wrap ((n : Int).tdiv 2 + 1) = (n : Int) / 2 + 1 := by rw [IntKind.wrap_i64, Int.tdiv_eq_ediv_of_nonneg (by omega)]; omega
  go_enter Tryd.func12, Tryd.ntmps12
  go_wp2_with fail
  go_ret
  exact ⟨rfl, HF.out _⟩
set_option maxHeartbeats 1000000 in
theorem lMay (gm cm gh ch : Nat) (c : Cfg) (v : Int) (w : World) (h1 : 1 ≤ v) (h2 : v ≤ c.lvl) :
    Calls Tryd.prog 9 #[.agg (cfC gm cm gh ch c), .int .i64 v] w fun e w' => e = .returned (.bool true) ∧ Fr [] w w' := by
  unfold cfC ivV
  have HF := Lib.hid (fun o => (Fr.refl [] w).alloc o)
  generalize c.lvl = lv at *
  go_enter Tryd.func9, Tryd.ntmps9
  go_wp2_with (go_at_call 26; refine (lIn _ _ _ h1 h2 _).mono ?_; rintro r w1 ⟨rfl, rfl⟩)
  go_ret
  exact ⟨rfl, HF.out _⟩
theorem lInOver (n lo hi : Int) (h1 : lo ≤ n) (h2 : hi < n) (w : World) : Calls Tryd.prog 26 #[.int .i64 n, .int .i64 lo, .int .i64 hi] w fun e w' => e = .returned (.bool false) ∧ w' = w := by
  have h3 : ¬ n ≤ hi := by omega
  go_enter Tryd.func26, Tryd.ntmps26
  go_wp2_with fail
  go_ret
  exact ⟨rfl, rfl⟩
set_option maxHeartbeats 1000000 in
theorem lMayNo (gm cm gh ch : Nat) (c : Cfg) (v : Int) (w : World) (h1 : 1 ≤ v) (h2 : c.lvl < v) :
    Calls Tryd.prog 9 #[.agg (cfC gm cm gh ch c), .int .i64 v] w fun e w' => e = .returned (.bool false) ∧ Fr [] w w' := by
  unfold cfC ivV
  have HF := Lib.hid (fun o => (Fr.refl [] w).alloc o)
  generalize c.lvl = lv at *
  go_enter Tryd.func9, Tryd.ntmps9
  go_wp2_with (go_at_call 26; refine (lInOver _ _ _ h1 h2 _).mono ?_; rintro r w1 ⟨rfl, rfl⟩)
  go_ret
  exact ⟨rfl, HF.out _⟩
end Go.Proofs.YtnnpjjehecbljaaDoor
