/-
  level: in, Right, Has, Quorum, May: contracts.
-/
import Derived.Test.YtnnpjjehecbljaaDoorLMem
import Derived.Deep.RegionHeld3
namespace Go.Proofs.YtnnpjjehecbljaaDoor
open Go.RowKit

theorem lIn (n lo hi : Int) (h1 : lo ≤ n) (h2 : n ≤ hi) (w : World) : Calls Tryd.prog 26 #[.int .i64 n, .int .i64 lo, .int .i64 hi] w fun e w' => e = .returned (.bool true) ∧ w' = w := by
  go_enter Tryd.func26, Tryd.ntmps26
  go_wp2_with fail
  go_ret
  exact ⟨rfl, rfl⟩
theorem lInNo (n lo hi : Int) (h1 : n < lo) (w : World) : Calls Tryd.prog 26 #[.int .i64 n, .int .i64 lo, .int .i64 hi] w fun e w' => e = .returned (.bool false) ∧ w' = w := by
  have h2 : ¬ lo ≤ n := by omega
  go_enter Tryd.func26, Tryd.ntmps26
  go_wp2_with fail
  go_ret
  exact ⟨rfl, rfl⟩

/-- What the k-th round of Right asks. -/
theorem rightL_at {lvl : Int} : ∀ {M G : List Int} {last : Int}, 0 ≤ last → G.length = M.length → rightL M G lvl last = true → ∀ k, k < M.length → 0 ≤ (if k = 0 then last else M.getD (k - 1) 0) ∧ (if k = 0 then last else M.getD (k - 1) 0) + 1 ≤ M.getD k 0 ∧ M.getD k 0 ≤ 7 ∧ lvl ≤ G.getD k 0 ∧ G.getD k 0 ≤ 2
  | [], [], _, _, _, _, k, hk => absurd hk (Nat.not_lt_zero _)
  | m :: M, g :: G, last, h0, h, hr, k, hk => by
    rw [rightL_cons] at hr
    cases k with
    | zero => exact ⟨h0, hr.1⟩
    | succ k =>
      have := rightL_at (last := m) (by omega) (by simpa using h) hr.2 k (by simpa using hk)
      cases k with
      | zero => exact this
      | succ k => exact this

set_option maxHeartbeats 4000000 in
set_option maxRecDepth 100000 in
theorem lRight (gm cm gh ch : Nat) (c : Cfg) (w : World) (h : Cf w gm cm gh ch c) (hc : c.ok = true) :
    Calls Tryd.prog 17 #[.agg (cfC gm cm gh ch c)] w fun e w' => e = .returned (.bool true) ∧ Fr [] w w' := by
  obtain ⟨h1, h2, h3, h4, h5, h6, h7⟩ := (Cfg.ok_iff c).1 hc
  have R := Lib.hid (rightL_at (Int.le_refl 0) h3 h7)
  have HM := Lib.hid h.1
  have HG := Lib.hid h.2.1
  have H6 := Lib.hid h6
  clear hc h7 h h6
  unfold cfC ivV
  have hlm := HM.out.lt
  have hlg := HG.out.lt
  rw [h3]
  have hgl := h3
  have HB := Lib.hid (Blk.new w #[.slice (some ⟨gm, 0, none⟩) c.M.length cm, .slice (some ⟨gh, 0, none⟩) c.M.length ch, .int .i64 c.lvl, .bool c.fin] 25)
  generalize hn : c.M.length = n at *
  have HN := Lib.hid hn
  clear hn h3
  generalize c.lvl = lv at *
  have HF := Lib.hid ((Fr.refl [] w).alloc (.cells #[.slice (some ⟨gm, 0, none⟩) n cm, .slice (some ⟨gh, 0, none⟩) n ch, .int .i64 lv, .bool c.fin] 25))
  have HM1 := Lib.hid (HM.out.alloc (.cells #[.slice (some ⟨gm, 0, none⟩) n cm, .slice (some ⟨gh, 0, none⟩) n ch, .int .i64 lv, .bool c.fin] 25))
  have HG1 := Lib.hid (HG.out.alloc (.cells #[.slice (some ⟨gm, 0, none⟩) n cm, .slice (some ⟨gh, 0, none⟩) n ch, .int .i64 lv, .bool c.fin] 25))
  have HGL : Hid (c.G.length = n) := hgl
  clear hgl
  generalize c.M = M at *
  generalize c.G = G at *
  generalize c.fin = fin at *
  cases fin
  all_goals
    go_enter Tryd.func17, Tryd.ntmps17
    try (have hlv : ¬ lv < 2 := by have := H6.out rfl; omega)
    go_wp2_with (first
      | (go_at_call 26; refine (lIn _ _ _ (by omega) (by omega) _).mono ?_; rintro e w' ⟨rfl, rfl⟩))
    generalize w.heap.size = bx at *
    go_loopw [3, 38] (fun la i wr => ∃ k : Nat, k ≤ n ∧ i = .int .i64 k ∧ la = .int .i64 (if k = 0 then 0 else M.getD (k - 1) 0) ∧ Hid (Blk wr bx _ 25) ∧ Hid (Iv wr gm cm M) ∧ Hid (Iv wr gh ch G) ∧ Hid (Fr [] w wr)) (fun _ i _ => n - (intOf i).toNat)
    case atStart => exact ⟨0, Nat.zero_le _, rfl, rfl, HB, HM1, HG1, HF⟩
    case round =>
      obtain ⟨k, hk, rfl, rfl, B1, M1, G1, F1⟩ := hrel
      by_cases hlt : k < n
      · obtain ⟨r0, r1, r2, r3, r4⟩ := R.out k hlt
        have c0 := M1.out.cell k (by rw [HN.out]; exact hlt)
        have c1 := G1.out.cell k (by rw [HGL.out]; exact hlt)
        have b1 := B1.out.cellAt (i := 1) (v := .slice (some ⟨gh, 0, none⟩) n ch) rfl
        have b2 := B1.out.cellAt (i := 2) (v := .int .i64 lv) rfl
        rw [Nat.zero_add] at c0 c1
        generalize hm : M.getD k 0 = m at *
        have HX := Lib.hid hm
        clear hm
        generalize G.getD k 0 = g at *
        generalize (if k = 0 then (0 : Int) else M.getD (k - 1) 0) = la at *
        have hw : IntKind.i64.wrap (la + 1) = la + 1 := by rw [IntKind.wrap_i64]; omega
        go_wp2_with fail
        go_region_held3 (fun w' => w'.cell? ⟨bx, 1, none⟩ = some (.slice (some ⟨gh, 0, none⟩) n ch) ∧ w'.cell? ⟨bx, 2, none⟩ = some (.int .i64 lv) ∧ w'.cell? ⟨gh, k, none⟩ = some (.int .i64 g)) (go_keep)
          (first | (go_at_call 26; refine (lIn _ _ _ (by omega) (by omega) _).mono ?_; rintro e w' ⟨rfl, rfl⟩))
        go_wp2_with fail
        go_roundw
        case rel => exact ⟨k + 1, by omega, by simp, by rw [if_neg (by omega), show k + 1 - 1 = k by omega, HX.out], Lib.hid B1.out.drew, Lib.hid M1.out.drew, Lib.hid G1.out.drew, Lib.hid F1.out.drew⟩
        case measure => simp [intOf]; omega
      · obtain rfl : k = n := by omega
        go_wp2_with fail
        go_ret
        exact ⟨rfl, F1.out⟩
end Go.Proofs.YtnnpjjehecbljaaDoor
