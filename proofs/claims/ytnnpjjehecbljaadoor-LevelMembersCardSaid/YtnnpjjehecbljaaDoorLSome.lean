/-
  The Level laws' some; Apply by its kinds.
-/
import Derived.Test.YtnnpjjehecbljaaDoorLAppl
import Derived.Test.YtnnpjjehecbljaaDoorLNil
import Derived.Test.YtnnpjjehecbljaaDoorSapp
namespace Go.Proofs.YtnnpjjehecbljaaDoor
open Go.RowKit

set_option maxRecDepth 100000 in
/-- What Apply answers, of a right config. -/
theorem lApply (gm cm gh ch : Nat) (c : Cfg) (e : Ent) (w : World) (h : Cf w gm cm gh ch c) (hok : c.ok = true) (he : e.Fits) :
    Calls Tryd.prog 8 #[.agg (cfC gm cm gh ch c), .agg e.cells] w fun r w' => AppPost w (tellC c e) r w' := by
  obtain ⟨h1, h2, h3, h4, h5, h6, h7⟩ := (Cfg.ok_iff c).1 hok
  have hs := rightL_sorted h3 h7
  cases heok : e.ok with
  | false =>
    have : tellC c e = (c, 1) := by unfold tellC applyOf; rw [heok, if_pos (Or.inr rfl)]
    rw [this]
    exact lApplyArg gm cm gh ch c e w h hok he heok
  | true =>
    have hne : ¬ (c.ok = false ∨ e.ok = false) := by rw [hok, heok]; simp
    have hap := apply_err c e.ok e.kind e.node e.level
    by_cases k5 : e.kind = 5
    · have ht : tellC c e = addOf c e.node := by unfold tellC applyOf; rw [if_neg hne, if_pos k5]
      exact lApplyGo 20 (tellC c e) gm cm gh ch c e w h hok he heok (by rw [k5]; rfl) (fun _ _ => rfl) (fun B dx w hL => by rw [ht]; exact lAddT B dx c e w hL hs h3 (by omega)) hap
    by_cases k6 : e.kind = 6
    · have ht : tellC c e = removeOf c e.node := by unfold tellC applyOf; rw [if_neg hne, if_neg k5, if_pos k6]
      exact lApplyGo 21 (tellC c e) gm cm gh ch c e w h hok he heok (by rw [k6]; rfl) (fun _ _ => rfl) (fun B dx w hL => by rw [ht]; exact lRemove B dx c e w hL hs h3 (by omega)) hap
    by_cases k7 : e.kind = 7
    · have ht : tellC c e = registerOf c e.node e.level := by unfold tellC applyOf; rw [if_neg hne, if_neg k5, if_neg k6, if_pos k7]
      exact lApplyGo 22 (tellC c e) gm cm gh ch c e w h hok he heok (by rw [k7]; rfl) (fun _ _ => rfl) (fun B dx w hL => by rw [ht]; exact lRegister B dx c e w hL hs h3 (by omega)) hap
    by_cases k8 : e.kind = 8
    · have ht : tellC c e = upgradeOf c := by unfold tellC applyOf; rw [if_neg hne, if_neg k5, if_neg k6, if_neg k7, if_pos k8]
      exact lApplyGo 23 (tellC c e) gm cm gh ch c e w h hok he heok (by rw [k8]; rfl) (fun _ _ => rfl) (fun B dx w hL => by rw [ht]; exact lUpgrade B dx c e w hL (by omega)) hap
    by_cases k9 : e.kind = 9
    · have ht : tellC c e = lowerOf c := by unfold tellC applyOf; rw [if_neg hne, if_neg k5, if_neg k6, if_neg k7, if_neg k8, if_pos k9]
      exact lApplyGo 24 (tellC c e) gm cm gh ch c e w h hok he heok (by rw [k9]; rfl) (fun _ _ => rfl) (fun B dx w hL => by rw [ht]; exact lLower B dx c e w hL) hap
    by_cases k10 : e.kind = 10
    · have ht : tellC c e = finaliseOf c := by unfold tellC applyOf; rw [if_neg hne, if_neg k5, if_neg k6, if_neg k7, if_neg k8, if_neg k9, if_pos k10]
      exact lApplyGo 25 (tellC c e) gm cm gh ch c e w h hok he heok (by rw [k10]; rfl) (fun _ _ => rfl) (fun B dx w hL => by rw [ht]; exact lFinal B dx c e w hL) hap
    · have ht : tellC c e = (c, 0) := by unfold tellC applyOf; rw [if_neg hne, if_neg k5, if_neg k6, if_neg k7, if_neg k8, if_neg k9, if_neg k10]
      rw [ht]
      refine lApplyNo gm cm gh ch c e w h hok he heok ?_
      unfold doesL imLook
      simp [Ne.symm k5, Ne.symm k6, Ne.symm k7, Ne.symm k8, Ne.symm k9, Ne.symm k10, k5, k6, k7, k8, k9, k10]
/-- A config of a call's own, as chunks. -/
abbrev cfCk (x : Nat × Nat × Nat × Nat) (c : Cfg) : List Ck := [(x.1, ivCh 3 x.2.1 c.M), (x.2.2.1, ivCh 3 x.2.2.2 c.G)]
theorem Cf.sat {w w' : World} {gm cm gh ch : Nat} {c : Cfg} (h1 : Cf w' gm cm gh ch c) (h2 : w.heap.size ≤ gm) (h3 : w.heap.size ≤ gh) (h4 : Fr [] w w') : Sat [] w (cfCk (gm, cm, gh, ch) c) w' := by
  refine ⟨h4, ?_, ?_, ?_⟩
  · have := h1.2.2; simp; exact this
  · intro d hd
    simp only [cfCk, List.mem_cons, List.not_mem_nil, or_false] at hd
    rcases hd with rfl | rfl
    · exact Iv.ck.1 h1.1
    · exact Iv.ck.1 h1.2.1
  · intro d hd
    simp only [cfCk, List.mem_cons, List.not_mem_nil, or_false] at hd
    rcases hd with rfl | rfl
    · exact .inr h2
    · exact .inr h3
/-- .. as a step over chunks. -/
theorem cApply {F : List Nat} {w0 w : World} {H : List Ck} {Q : Ending → World → Prop} (hS : Sat F w0 H w) {gm cm gh ch : Nat} {c : Cfg} {e : Ent} (h : Cf w gm cm gh ch c) (hok : c.ok = true) (he : e.Fits) {a : Cfg × Int} (ha : tellC c e = a)
    (k : ∀ (x : Nat × Nat × Nat × Nat) w', Sat F w0 ((x.1, ivCh 3 x.2.1 a.1.M) :: (x.2.2.1, ivCh 3 x.2.2.2 a.1.G) :: H) w' → Q (.returned (.tuple #[.agg (cfC x.1 x.2.1 x.2.2.1 x.2.2.2 a.1), .int .i64 a.2])) w') :
    Calls Tryd.prog 8 #[.agg (cfC gm cm gh ch c), .agg e.cells] w Q := by
  subst ha
  refine (lApply gm cm gh ch c e w h hok he).mono ?_
  rintro r w' ⟨gm', cm', gh', ch', rfl, h1, h2, h3, h4⟩
  exact k (gm', cm', gh', ch') w' (hS.trans0 (h1.sat h2 h3 h4))
theorem cNew {F : List Nat} {w0 w : World} {H : List Ck} {Q : Ending → World → Prop} (hS : Sat F w0 H w) {g cap n : Nat} {L : List Int} (h : Ck.in (g, ivCh 3 cap L) w) (hne : L ≠ []) (h4 : L.length ≤ 4096) (hok : (newC L).ok = true) {c : Cfg} (hc : newC L = c) (hn : n = L.length)
    (k : ∀ (x : Nat × Nat × Nat × Nat) w', Sat F w0 ((x.1, ivCh 3 x.2.1 c.M) :: (x.2.2.1, ivCh 3 x.2.2.2 c.G) :: H) w' → Q (.returned (.tuple #[.agg (cfC x.1 x.2.1 x.2.2.1 x.2.2.2 c), .bool true])) w') :
    Calls Tryd.prog 6 #[.slice (some ⟨g, 0, none⟩) n cap] w Q := by
  subst hc
  subst hn
  refine (lNew g cap L w (Iv.ck.2 h) hne h4 hok).mono ?_
  rintro r w' ⟨gm', cm', gh', ch', rfl, h1, h2, h3, h4⟩
  exact k (gm', cm', gh', ch') w' (hS.trans0 (h1.sat h2 h3 h4))
/-- Two chunks are a config. -/
theorem Sat.cf {F : List Nat} {w0 w : World} {H : List Ck} (hS : Sat F w0 H w) (n m : Nat) {gm cm gh ch : Nat} {c : Cfg} (hn : H[n]? = some (gm, ivCh 3 cm c.M)) (hm : H[m]? = some (gh, ivCh 3 ch c.G)) (hnm : n ≠ m) : Cf w gm cm gh ch c :=
  ⟨Iv.ck.2 (hS.mem n hn), Iv.ck.2 (hS.mem m hm), hS.ne n m hn hm hnm⟩

/-- The law's some, as far as it has come. -/
def someP (b k : Nat) : List Int := (1 + (b / 128 : Nat) : Int) :: ((List.range k).filter (fun i => b / 2 ^ i % 2 == 1)).map (fun i => ((i : Nat) : Int) + 1)
theorem someP_len (b k : Nat) : (someP b k).length ≤ k + 1 := by
  unfold someP
  have := List.length_filter_le (fun i => b / 2 ^ i % 2 == 1) (List.range k)
  simp at this ⊢
  exact this
theorem someP_yes {b k : Nat} (h : b / 2 ^ k % 2 = 1) : someP b k ++ [((k : Int) + 1)] = someP b (k + 1) := by
  unfold someP
  rw [List.range_succ, List.filter_append, List.map_append]
  simp [h]
theorem someP_no {b k : Nat} (h : ¬ b / 2 ^ k % 2 = 1) : someP b k = someP b (k + 1) := by
  unfold someP
  rw [List.range_succ, List.filter_append, List.map_append]
  simp [h]

theorem bitI (b k : Nat) : ((b : Int) / 2 ^ k).tmod 2 = ((b / 2 ^ k % 2 : Nat) : Int) := by
  have h : ((b : Int) / 2 ^ k) = ((b / 2 ^ k : Nat) : Int) := by simp
  rw [h, Int.tmod_eq_emod_of_nonneg (Int.natCast_nonneg _)]
  simp

set_option maxHeartbeats 4000000 in
set_option maxRecDepth 100000 in
theorem lSome (b : Nat) (hb : b < 256) (w : World) :
    Calls Tryd.prog 7 #[.int .u8 (b : Nat)] w fun e w' => ∃ x : Nat × Nat, e = .returned (.slice (some ⟨x.1, 0, none⟩) (someL b).length x.2) ∧ Sat [] w [(x.1, ivCh 3 x.2 (someL b))] w' := by
  have hS := Sat.refl [] w
  go_enter Tryd.func7, Tryd.ntmps7
  go_wp2_with fail
  have hS := hS.new _ rfl #[.int .i64 (1 + (b : Int) / 128)] 3
  generalize w.heap.size = g0 at *
  generalize w.alloc (.cells #[.int .i64 (1 + (b : Int) / 128)] 3) = w1 at *
  go_loopw [3, 4] (fun v i wr => ∃ (k : Nat) (x : Nat × Nat), k ≤ 7 ∧ i = .int .i64 k ∧ v = .slice (some ⟨x.1, 0, none⟩) (someP b k).length x.2 ∧ Hid (Sat [] w [(x.1, ivCh 3 x.2 (someP b k))] wr)) (fun _ i _ => 7 - (intOf i).toNat)
  case atStart =>
    refine ⟨0, (g0, 1), by omega, rfl, rfl, ?_⟩
    have h1 : someP b 0 = [1 + (b : Int) / 128] := by unfold someP; simp
    show Sat [] w [(g0, ivCh 3 1 (someP b 0))] w1
    rw [h1]
    exact hS.asRow (by unfold maxLen; simp)
  case round =>
    clear hS
    obtain ⟨k, x, hk, rfl, rfl, hS⟩ := hrel
    have hS := hS.out
    have hlen := someP_len b k
    have hb1 := bitI b k
    by_cases hlt : k < 7
    · by_cases hbit : b / 2 ^ k % 2 = 1
      · have HY := Lib.hid (someP_yes hbit)
        rw [hbit] at hb1
        clear hbit
        go_wp2_with (at_builtin; refine wpList_apS Tryd.elI (.tmp 19) (.tmp 22) (some (x.1, x.2)) (l := (someP b k).map (Value.int .i64)) (u := .int .i64 ((k : Int) + 1)) (vb := wr.heap.size) ((hS.new _ rfl #[.int .i64 ((k : Int) + 1)] 3).perm (List.Perm.swap _ _ _)) (fun h => by cases h) (by rw [List.length_map]; rfl) rfl (Blk.new wr _ _) rfl (by rw [List.length_map]; unfold maxLen; omega) (by rw [List.length_map]; omega) ?_; intro g1 c1 w2 hS; rw [List.length_map])
        go_roundw
        case rel =>
          refine ⟨k + 1, (g1, c1), by omega, by first | rfl | go_num, ?_, ?_⟩
          · have := congrArg List.length HY.out
            rw [List.length_append] at this
            rw [← this]
            rfl
          · show Sat [] w [(g1, ivCh 3 c1 (someP b (k + 1)))] w2
            rw [← HY.out]
            unfold ivCh
            rw [List.map_append]
            exact hS.sub (.cons_cons _ (List.nil_sublist _))
        case measure => simp [intOf]; omega
      · have HNo := Lib.hid (someP_no hbit)
        have hb0 : b / 2 ^ k % 2 = 0 := by omega
        rw [hb0] at hb1
        clear hbit hb0
        go_wp2_with fail
        go_roundw
        case rel => exact ⟨k + 1, x, by omega, by first | rfl | go_num, by rw [HNo.out], by rw [← HNo.out]; exact hS⟩
        case measure => simp [intOf]; omega
    · obtain rfl : k = 7 := by omega
      go_wp2_with fail
      go_ret
      exact ⟨x, rfl, hS⟩
end Go.Proofs.YtnnpjjehecbljaaDoor
