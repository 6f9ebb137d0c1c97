/-
  LevelRises: the walk.
-/
import Derived.Test.YtnnpjjehecbljaaDoorLEx
namespace Go.Proofs.YtnnpjjehecbljaaDoor
open Go.RowKit
set_option linter.unusedSimpArgs false

theorem someL_len (b : Nat) : (someL b).length ≤ 8 := someP_len b 7
theorem someL_ne (b : Nat) : someL b ≠ [] := by unfold someL; simp
theorem some_ok {b : Nat} (hb : b < 256) : (newC (someL b)).ok = true := some_new ⟨b, hb⟩
def exReg (m : Int) : Ent := ⟨1, 1, 7, 0, 0, 0, 0, m, 2, ⟨#[]⟩, ⟨#[]⟩⟩
def exFin : Ent := ⟨1, 1, 10, 0, 0, 0, 0, 0, 0, ⟨#[]⟩, ⟨#[]⟩⟩
def exLow : Ent := ⟨1, 1, 9, 0, 0, 0, 0, 0, 0, ⟨#[]⟩, ⟨#[]⟩⟩
theorem exFin_ok : exFin.ok = true := by decide +kernel
theorem exLow_ok : exLow.ok = true := by decide +kernel
theorem exReg_ok {m : Int} (h0 : 1 ≤ m) (h1 : m ≤ 7) : (exReg m).ok = true := by
  have h : ∀ k : Fin 7, (exReg (k.val + 1)).ok = true := by decide +kernel
  have := h ⟨m.toNat - 1, by omega⟩
  rwa [show (((m.toNat - 1 : Nat) : Int) + 1) = m by omega] at this
theorem exReg_fits (m : Int) : (exReg m).Fits := by constructor <;> simp [exReg, U64, maxLen] <;> decide
theorem exFin_fits : exFin.Fits := by constructor <;> simp [exFin, U64, maxLen] <;> decide
theorem exLow_fits : exLow.Fits := by constructor <;> simp [exLow, U64, maxLen] <;> decide
theorem rise_M (M : List Int) (k : Nat) : (riseC M k).M = M := rfl
theorem rise_lvl (M : List Int) (k : Nat) : (riseC M k).lvl = 1 := rfl
theorem rise_fin (M : List Int) (k : Nat) : (riseC M k).fin = false := rfl
theorem rise_len {M : List Int} {k : Nat} (h : k ≤ M.length) : (riseC M k).G.length = M.length := by
  show (List.replicate k (2 : Int) ++ List.replicate (M.length - k) 1).length = _
  rw [List.length_append, List.length_replicate, List.length_replicate]
  omega
theorem some_okR : ∀ b : Fin 256, ((List.range ((memL (someL b.val)).length + 1)).all (fun i => (riseC (memL (someL b.val)) i).ok) && Cfg.ok ⟨memL (someL b.val), List.replicate (memL (someL b.val)).length 2, 2, false⟩ && Cfg.ok ⟨memL (someL b.val), List.replicate (memL (someL b.val)).length 2, 2, true⟩) = true := by decide +kernel
/-- What the walk asks of the members. -/
structure RiseOK (M : List Int) : Prop where
  ok : ∀ k, k ≤ M.length → (riseC M k).ok = true
  ok2 : Cfg.ok ⟨M, List.replicate M.length 2, 2, false⟩ = true
  ok3 : Cfg.ok ⟨M, List.replicate M.length 2, 2, true⟩ = true
  up : ∀ k, k < M.length → tellC (riseC M k) exE = (riseC M k, 8)
  reg : ∀ k, k < M.length → tellC (riseC M k) (exReg (M.getD k 0)) = (riseC M (k + 1), 0)
  last : tellC (riseC M M.length) exE = (⟨M, List.replicate M.length 2, 2, false⟩, 0)
  fin : tellC ⟨M, List.replicate M.length 2, 2, false⟩ exFin = (⟨M, List.replicate M.length 2, 2, true⟩, 0)
  low3 : tellC ⟨M, List.replicate M.length 2, 2, true⟩ exLow = (⟨M, List.replicate M.length 2, 2, true⟩, 8)
  low2 : tellC ⟨M, List.replicate M.length 2, 2, false⟩ exLow = (⟨M, List.replicate M.length 2, 1, false⟩, 0)
theorem pair_of {a : Cfg × Int} {c : Cfg} {k : Int} (h1 : (a.2 == k) = true) (h2 : a.1 = c) : a = (c, k) := by
  obtain ⟨x, y⟩ := a
  have : y = k := by simpa using h1
  subst this
  have h2' : x = c := h2
  rw [h2']
theorem riseOK {b : Nat} (hb : b < 256) : RiseOK (memL (someL b)) := by
  have h := some_rises ⟨b, hb⟩
  have h2 := some_okR ⟨b, hb⟩
  simp only at h h2
  generalize memL (someL b) = M at *
  unfold riseB at h
  simp only [Bool.and_eq_true, List.all_eq_true, List.mem_range] at h h2
  obtain ⟨⟨⟨⟨⟨⟨⟨⟨hall, a1⟩, a2⟩, a3⟩, a4⟩, a5⟩, a6⟩, a7⟩, a8⟩ := h
  obtain ⟨⟨r, o2⟩, o3⟩ := h2
  have hmem : ∀ k, k < M.length → 1 ≤ M.getD k 0 ∧ M.getD k 0 ≤ 7 := fun k hk => by
    obtain ⟨h1, h2, h3, h4, h5, h6, h7⟩ := (Cfg.ok_iff _).1 (r 0 (by omega))
    have hm : M.getD k 0 ∈ M := by rw [List.getD_eq_getElem?_getD, List.getElem?_eq_getElem hk]; exact List.getElem_mem hk
    have h8 := rightL_mem h3 h7 _ hm
    have h9 := (rightL_small (by omega) (by decide) h3 h7).1 _ hm
    omega
  refine ⟨fun k hk => r k (by omega), o2, o3, fun k hk => ?_, fun k hk => ?_, ?_, ?_, ?_, ?_⟩
  · obtain ⟨⟨q1, q2⟩, q3⟩ := hall k hk
    have e : tellC (riseC M k) exE = applyOf (riseC M k) true 8 0 0 := by unfold tellC; rw [exE_ok]; rfl
    rw [e]
    refine pair_of q1 (apply_err _ _ _ _ _ ?_)
    have : (applyOf (riseC M k) true 8 0 0).2 = 8 := by simpa using q1
    rw [this]
    decide
  · obtain ⟨⟨q1, q2⟩, q3⟩ := hall k hk
    have e : tellC (riseC M k) (exReg (M.getD k 0)) = applyOf (riseC M k) true 7 (M.getD k 0) 2 := by unfold tellC; rw [exReg_ok (hmem k hk).1 (hmem k hk).2]; rfl
    rw [e]
    exact pair_of q2 (Cfg.eqB_eq q3)
  · have e : tellC (riseC M M.length) exE = applyOf (riseC M M.length) true 8 0 0 := by unfold tellC; rw [exE_ok]; rfl
    rw [e]
    exact pair_of a1 (Cfg.eqB_eq a2)
  · have e : tellC ⟨M, List.replicate M.length 2, 2, false⟩ exFin = applyOf ⟨M, List.replicate M.length 2, 2, false⟩ true 10 0 0 := by unfold tellC; rw [exFin_ok]; rfl
    rw [e]
    exact pair_of a3 (Cfg.eqB_eq a4)
  · have e : tellC ⟨M, List.replicate M.length 2, 2, true⟩ exLow = applyOf ⟨M, List.replicate M.length 2, 2, true⟩ true 9 0 0 := by unfold tellC; rw [exLow_ok]; rfl
    rw [e]
    exact pair_of a5 (Cfg.eqB_eq a6)
  · have e : tellC ⟨M, List.replicate M.length 2, 2, false⟩ exLow = applyOf ⟨M, List.replicate M.length 2, 2, false⟩ true 9 0 0 := by unfold tellC; rw [exLow_ok]; rfl
    rw [e]
    exact pair_of a7 (Cfg.eqB_eq a8)

set_option maxRecDepth 100000 in
set_option maxHeartbeats 8000000 in
theorem lRisesN (b : Nat) (hb : b < 256) (fin : Bool) (w : World) : Calls Tryd.prog 3 #[.int .u8 (b : Nat), .bool fin] w fun e w' => e = .returned (.bool true) ∧ Fr [] w w' := by
  have hS := Sat.refl [] w
  have HR := Lib.hid (riseOK hb)
  have hc0 : newC (someL b) = riseC (memL (someL b)) 0 := rfl
  have hsl := someL_len b
  go_enter Tryd.func3, Tryd.ntmps3
  go_upto_region 7 with (first
    | (go_at_call 5; refine Sat.callF hS (lExamples _) (fun w1 hS => ?_))
    | (go_at_call 7; refine Sat.call0 hS (lSome b hb _) (fun ⟨g0, c0⟩ w2 hS => ?_); dsimp only [List.cons_append, List.nil_append] at hS)
    | (go_at_call 6; refine cNew hS (L := someL b) (hS.mem 0 rfl) (someL_ne b) (by omega) (some_ok hb) hc0 rfl ?_; rintro ⟨g1, c1, g2, c2⟩ w3 hS; dsimp only at hS; simp only [cfC, ivV, rise_M, rise_len (Nat.zero_le _), rise_lvl, rise_fin]))
  have hM1 : Hid ((newC (someL b)).ok = true) := some_ok hb
  clear hc0 hsl
  generalize memL (someL b) = M at *
  have HN : Hid (∀ k, k ≤ M.length → (riseC M k).G.length = M.length) := fun k hk => rise_len hk
  have hn8 : M.length ≤ 7 := ((Cfg.ok_iff _).1 (HR.out.ok 0 (Nat.zero_le _))).2.1
  have HC : Hid (∀ (k : Nat) (g c h d : Nat), k ≤ M.length → cfC g c h d (riseC M k) = #[.slice (some ⟨g, 0, none⟩) M.length c, .slice (some ⟨h, 0, none⟩) M.length d, .int .i64 1, .bool false]) := by
    intro k g c h d hk
    unfold cfC ivV
    rw [HN.out k hk]
    rfl
  generalize hn : M.length = n at *
  have HL := Lib.hid hn
  clear hn
  have hS := hS.new _ rfl #[.slice (some ⟨g1, 0, none⟩) n c1, .slice (some ⟨g2, 0, none⟩) n c2, .int .i64 1, .bool false] 25
  generalize w3.heap.size = cx at *
  generalize w3.alloc (.cells #[.slice (some ⟨g1, 0, none⟩) n c1, .slice (some ⟨g2, 0, none⟩) n c2, .int .i64 1, .bool false] 25) = w4 at *
  go_wp2_with fail
  have hS := hS.new _ rfl #[.int .u64 1, .int .u64 1, .int .i64 8, .int .u64 0, .int .u64 0, .int .u64 0, .int .u64 0, .int .i64 0, .int .i64 0, .string ⟨#[]⟩, .string ⟨#[]⟩] 31
  generalize w4.heap.size = ub at *
  generalize w4.alloc (.cells #[.int .u64 1, .int .u64 1, .int .i64 8, .int .u64 0, .int .u64 0, .int .u64 0, .int .u64 0, .int .i64 0, .int .i64 0, .string ⟨#[]⟩, .string ⟨#[]⟩] 31) = w5 at *
  go_loopw [9] (fun i wr => ∃ (k : Nat) (x : Nat × Nat × Nat × Nat), k ≤ n ∧ i = .int .i64 k ∧ Hid (Sat [] w ((ub, .cel #[.int .u64 1, .int .u64 1, .int .i64 8, .int .u64 0, .int .u64 0, .int .u64 0, .int .u64 0, .int .i64 0, .int .i64 0, .string ⟨#[]⟩, .string ⟨#[]⟩] 31) :: (cx, .cel #[.slice (some ⟨x.1, 0, none⟩) n x.2.1, .slice (some ⟨x.2.2.1, 0, none⟩) n x.2.2.2, .int .i64 1, .bool false] 25) :: cfCk x (riseC M k)) wr)) (fun i _ => n - (intOf i).toNat)
  case atStart => exact ⟨0, (g1, c1, g2, c2), Nat.zero_le _, rfl, hS.pick [0, 1, 2, 3] (by decide) rfl⟩
  case round =>
    clear hS
    obtain ⟨k, ⟨g1, c1, g2, c2⟩, hk, rfl, hS⟩ := hrel
    have hS := hS.out
    dsimp only [cfCk] at hS
    have fs := hS.says
    simp only [says, Ck.say] at fs
    by_cases hlt : k < n
    · have HU := Lib.hid (HR.out.up k (by rw [HL.out]; exact hlt))
      have HG := Lib.hid (HR.out.reg k (by rw [HL.out]; exact hlt))
      have HO := Lib.hid (HR.out.ok k (by rw [HL.out]; exact hk))
      go_upto_region 12 with (go_at_call 8; rw [← HC.out k _ _ _ _ hk]; refine cApply hS (gm := g1) (cm := c1) (gh := g2) (ch := c2) (c := riseC M k) (e := exE) (hS.cf 2 3 rfl rfl (by decide)) HO.out exE_fits HU.out ?_; rintro ⟨g3, c3, g4, c4⟩ w6 hS; dsimp only at hS; dsimp only; rw [HC.out k g3 c3 g4 c4 hk, HC.out k g1 c1 g2 c2 hk])
      have hS := hS.new _ rfl #[.slice (some ⟨g3, 0, none⟩) n c3, .slice (some ⟨g4, 0, none⟩) n c4, .int .i64 1, .bool false] 25
      generalize w6.heap.size = x10 at *
      generalize w6.alloc (.cells #[.slice (some ⟨g3, 0, none⟩) n c3, .slice (some ⟨g4, 0, none⟩) n c4, .int .i64 1, .bool false] 25) = w7 at *
      clear fs
      have fs := hS.says
      simp only [says, Ck.say] at fs
      have e1 : w7.cell? ⟨g1, k, none⟩ = some (.int .i64 (M.getD k 0)) := (Iv.ck.2 (hS.mem 5 rfl)).at_ (by show k < M.length; rw [HL.out]; exact hlt)
      refine GoL.begin [(none, fun w => ∀ i, w.cell? ⟨cx, i, none⟩ = #[.slice (some ⟨g1, 0, none⟩) n c1, .slice (some ⟨g2, 0, none⟩) n c2, .int .i64 1, .bool false][i]?), (some 7, fun w => w.cell? ⟨g1, k, none⟩ = some (.int .i64 (M.getD k 0)))] (by kernel_rfl) ?_ ?_
      · exact (Facts.cons_at (.inr (by first | exact e1 | simp [fs])) (Facts.cons_at (.inr (by first | exact e1 | simp [fs])) Facts.nil_at))
      have hS := hS.drew
      clear fs
      have fs := hS.says
      simp only [says, Ck.say] at fs
      have e1 : w7.drew.cell? ⟨g1, k, none⟩ = some (.int .i64 (M.getD k 0)) := e1
      generalize w7.drew = w7 at *
      refine' GoL.take 0 [] ?_ ?_ ?_ ?_ ?_
      rotate_left 3
      · (simp only [List.getElem?_toArray, List.getElem?_cons_succ, List.getElem?_cons_zero]; rfl)
      · exact fun _ _ _ h => h
      · (refine Or.inl ⟨by first | kernel_rfl | (simp [Region.wanted, yielded]), ?_⟩; intro w hSw; have f0 := Facts.get hSw 0 rfl (by decide); (try dsimp only at f0); clear hSw; go_simp; first | done | with_reducible rfl)
      rotate_left 1
      · kernel_rfl
      simp only [Act.put, List.setIfInBounds_toArray, List.set_cons_zero, List.set_cons_succ]
      refine' GoL.take 1 [] ?_ ?_ ?_ ?_ ?_
      rotate_left 3
      · (simp only [List.getElem?_toArray, List.getElem?_cons_succ, List.getElem?_cons_zero]; rfl)
      · exact fun _ _ _ h => h
      · (refine Or.inl ⟨by first | kernel_rfl | (simp [Region.wanted, yielded]), ?_⟩; intro w hSw; clear hSw; go_simp; first | done | with_reducible rfl)
      rotate_left 1
      · kernel_rfl
      simp only [Act.put, List.setIfInBounds_toArray, List.set_cons_zero, List.set_cons_succ]
      refine' GoL.take 2 [] ?_ ?_ ?_ ?_ ?_
      rotate_left 3
      · (simp only [List.getElem?_toArray, List.getElem?_cons_succ, List.getElem?_cons_zero]; rfl)
      · exact fun _ _ _ h => h
      · (refine Or.inl ⟨by first | kernel_rfl | (simp [Region.wanted, yielded]), ?_⟩; intro w hSw; have f0 := Facts.get hSw 0 rfl (by decide); (try dsimp only at f0); clear hSw; go_simp; first | done | with_reducible rfl)
      rotate_left 1
      · kernel_rfl
      simp only [Act.put, List.setIfInBounds_toArray, List.set_cons_zero, List.set_cons_succ]
      refine' GoL.take 3 [] ?_ ?_ ?_ ?_ ?_
      rotate_left 3
      · (simp only [List.getElem?_toArray, List.getElem?_cons_succ, List.getElem?_cons_zero]; rfl)
      · exact fun _ _ _ h => h
      · (refine Or.inl ⟨by first | kernel_rfl | (simp [Region.wanted, yielded]), ?_⟩; intro w hSw; clear hSw; go_simp; first | done | with_reducible rfl)
      rotate_left 1
      · kernel_rfl
      simp only [Act.put, List.setIfInBounds_toArray, List.set_cons_zero, List.set_cons_succ]
      refine' GoL.take 4 [] ?_ ?_ ?_ ?_ ?_
      rotate_left 3
      · (simp only [List.getElem?_toArray, List.getElem?_cons_succ, List.getElem?_cons_zero]; rfl)
      · exact fun _ _ _ h => h
      · (refine Or.inl ⟨by first | kernel_rfl | (simp [Region.wanted, yielded]), ?_⟩; intro w hSw; clear hSw; go_simp; first | done | with_reducible rfl)
      rotate_left 1
      · kernel_rfl
      simp only [Act.put, List.setIfInBounds_toArray, List.set_cons_zero, List.set_cons_succ]
      refine' GoL.take 5 [6, 7] ?_ ?_ ?_ ?_ ?_
      rotate_left 3
      · (simp only [List.getElem?_toArray, List.getElem?_cons_succ, List.getElem?_cons_zero]; rfl)
      · exact fun _ _ _ h => h
      · (refine Or.inl ⟨by first | kernel_rfl | (simp [Region.wanted, yielded]), ?_⟩; intro w hSw; have f1 := Facts.get hSw 1 rfl (by decide); (try dsimp only at f1); clear hSw; go_simp; first | done | with_reducible rfl)
      rotate_left 1
      · kernel_rfl
      simp only [Act.put, List.setIfInBounds_toArray, List.set_cons_zero, List.set_cons_succ]
      refine' GoL.take 6 [] ?_ ?_ ?_ ?_ ?_
      rotate_left 3
      · (simp only [List.getElem?_toArray, List.getElem?_cons_succ, List.getElem?_cons_zero]; rfl)
      · exact fun _ _ _ h => h
      · (refine Or.inl ⟨by first | kernel_rfl | (simp [Region.wanted, yielded]), ?_⟩; intro w hSw; clear hSw; go_simp; first | done | with_reducible rfl)
      rotate_left 1
      · kernel_rfl
      simp only [Act.put, List.setIfInBounds_toArray, List.set_cons_zero, List.set_cons_succ]
      refine GoL.ready [7, 11] (by kernel_rfl) (by simp) ?_
      refine GoL.one (by (simp only [List.getElem?_toArray, List.getElem?_cons_succ, List.getElem?_cons_zero]; rfl)) (fun K hK => ?_) ?_
      · go_simp
        rw [← HC.out k _ _ _ _ hk]
        refine cApply hS (gm := g1) (cm := c1) (gh := g2) (ch := c2) (c := riseC M k) (e := exReg (M.getD k 0)) (hS.cf 5 6 rfl rfl (by decide)) HO.out (exReg_fits _) HG.out ?_
        rintro ⟨g5, c5, g6, c6⟩ w8 hS
        dsimp only at hS
        dsimp only
        rw [HC.out (k + 1) g5 c5 g6 c6 (by omega), HC.out k g1 c1 g2 c2 hk]
        clear fs
        have fs := hS.says
        simp only [says, Ck.say] at fs
        refine hK.out _ _ ?_ ?_
        · exact (Facts.cons_at (.inr (by first | exact e1 | simp [fs])) (Facts.cons_at (.inl (by kernel_rfl)) Facts.nil_at))
        clear hK K
        try simp only [Act.put, List.setIfInBounds_toArray, List.set_cons_zero, List.set_cons_succ]
        refine' GoL.take 8 [] ?_ ?_ ?_ ?_ ?_
        rotate_left 3
        · (simp only [List.getElem?_toArray, List.getElem?_cons_succ, List.getElem?_cons_zero]; rfl)
        · exact fun _ _ _ h => h
        · (refine Or.inl ⟨by first | kernel_rfl | (simp [Region.wanted, yielded]), ?_⟩; intro w hSw; clear hSw; go_simp; first | done | with_reducible rfl)
        rotate_left 1
        · kernel_rfl
        simp only [Act.put, List.setIfInBounds_toArray, List.set_cons_zero, List.set_cons_succ]
        refine' GoL.take 9 [] ?_ ?_ ?_ ?_ ?_
        rotate_left 3
        · (simp only [List.getElem?_toArray, List.getElem?_cons_succ, List.getElem?_cons_zero]; rfl)
        · exact fun _ _ _ h => h
        · (refine Or.inl ⟨by first | kernel_rfl | (simp [Region.wanted, yielded]), ?_⟩; intro w hSw; clear hSw; go_simp; first | done | with_reducible rfl)
        rotate_left 1
        · kernel_rfl
        simp only [Act.put, List.setIfInBounds_toArray, List.set_cons_zero, List.set_cons_succ]
        refine' GoL.take 10 [] ?_ ?_ ?_ ?_ ?_
        rotate_left 3
        · (simp only [List.getElem?_toArray, List.getElem?_cons_succ, List.getElem?_cons_zero]; rfl)
        · exact fun _ _ _ h => h
        · (refine Or.inl ⟨by first | kernel_rfl | (simp [Region.wanted, yielded]), ?_⟩; intro w hSw; clear hSw; go_simp; first | done | with_reducible rfl)
        rotate_left 1
        · kernel_rfl
        simp only [Act.put, List.setIfInBounds_toArray, List.set_cons_zero, List.set_cons_succ]
        refine GoL.ready [11] (by kernel_rfl) (by simp) ?_
        refine GoL.one (by (simp only [List.getElem?_toArray, List.getElem?_cons_succ, List.getElem?_cons_zero]; rfl)) (fun K hK => ?_) ?_
        · go_simp
          have hS := hS.new _ rfl #[.slice none 0 0, .slice none 0 0, .int .i64 0, .bool false] 25
          generalize w8.heap.size = x12 at *
          generalize w8.alloc (.cells #[.slice none 0 0, .slice none 0 0, .int .i64 0, .bool false] 25) = wa at *
          clear fs
          have fs := hS.says
          simp only [says, Ck.say] at fs
          refine hK.out _ _ ?_ ?_
          · exact (Facts.cons_at (.inr (by first | exact e1 | simp [fs])) (Facts.cons_at (.inl (by kernel_rfl)) Facts.nil_at))
          clear hK K
          try simp only [Act.put, List.setIfInBounds_toArray, List.set_cons_zero, List.set_cons_succ]
          refine GoL.ready [12] (by kernel_rfl) (by simp) ?_
          refine GoL.one (by (simp only [List.getElem?_toArray, List.getElem?_cons_succ, List.getElem?_cons_zero]; rfl)) (fun K hK => ?_) ?_
          · go_simp
            have hS := ((((hS.set 0 rfl 0 (.slice (some ⟨g5, 0, none⟩) n c5)).set 0 rfl 1 (.slice (some ⟨g6, 0, none⟩) n c6)).set 0 rfl 2 (.int .i64 1)).set 0 rfl 3 (.bool false))
            simp only [List.set_cons_zero, List.set_cons_succ, List.setIfInBounds_toArray] at hS
            generalize ((((wa.setCell ⟨x12, 0, none⟩ (.slice (some ⟨g5, 0, none⟩) n c5)).setCell ⟨x12, 1, none⟩ (.slice (some ⟨g6, 0, none⟩) n c6)).setCell ⟨x12, 2, none⟩ (.int .i64 1)).setCell ⟨x12, 3, none⟩ (.bool false)) = wb at *
            clear fs
            have fs := hS.says
            simp only [says, Ck.say] at fs
            refine hK.out _ _ ?_ ?_
            · exact (Facts.cons_at (.inr (by first | exact e1 | simp [fs])) (Facts.cons_at (.inl (by kernel_rfl)) Facts.nil_at))
            clear hK K
            try simp only [Act.put, List.setIfInBounds_toArray, List.set_cons_zero, List.set_cons_succ]
            refine' GoL.take 13 [] ?_ ?_ ?_ ?_ ?_
            rotate_left 3
            · (simp only [List.getElem?_toArray, List.getElem?_cons_succ, List.getElem?_cons_zero]; rfl)
            · exact fun _ _ _ h => h
            · (refine Or.inl ⟨by first | kernel_rfl | (simp [Region.wanted, yielded]), ?_⟩; intro w hSw; clear hSw; go_simp; first | done | with_reducible rfl)
            rotate_left 1
            · kernel_rfl
            simp only [Act.put, List.setIfInBounds_toArray, List.set_cons_zero, List.set_cons_succ]
            refine GoL.done (by kernel_rfl) ?_
            go_wp2_with fail
            go_roundw
            case rel => exact ⟨k + 1, (g5, c5, g6, c6), by omega, by first | rfl | go_num, ((((hS.set 7 rfl 0 (.slice (some ⟨g5, 0, none⟩) n c5)).set 7 rfl 1 (.slice (some ⟨g6, 0, none⟩) n c6)).set 7 rfl 2 (.int .i64 1)).set 7 rfl 3 (.bool false)).pick [6, 7, 1, 2] (by decide) rfl⟩
            case measure => simp [intOf]; omega
          exact AllL.nil
        exact AllL.nil
      refine GoL.one (by (simp only [List.getElem?_toArray, List.getElem?_cons_succ, List.getElem?_cons_zero]; rfl)) (fun K hK => ?_) ?_
      · go_simp
        have hS := hS.new _ rfl #[.slice none 0 0, .slice none 0 0, .int .i64 0, .bool false] 25
        generalize w7.heap.size = x12 at *
        generalize w7.alloc (.cells #[.slice none 0 0, .slice none 0 0, .int .i64 0, .bool false] 25) = wa at *
        clear fs
        have fs := hS.says
        simp only [says, Ck.say] at fs
        have e1 : wa.cell? ⟨g1, k, none⟩ = some (.int .i64 (M.getD k 0)) := (Iv.ck.2 (hS.mem 6 rfl)).at_ (by show k < M.length; rw [HL.out]; exact hlt)
        refine hK.out _ _ ?_ ?_
        · exact (Facts.cons_at (.inr (by first | exact e1 | simp [fs])) (Facts.cons_at (.inr (by first | exact e1 | simp [fs])) Facts.nil_at))
        clear hK K
        try simp only [Act.put, List.setIfInBounds_toArray, List.set_cons_zero, List.set_cons_succ]
        refine GoL.ready [7] (by kernel_rfl) (by simp) ?_
        refine GoL.one (by (simp only [List.getElem?_toArray, List.getElem?_cons_succ, List.getElem?_cons_zero]; rfl)) (fun K hK => ?_) ?_
        · go_simp
          rw [← HC.out k _ _ _ _ hk]
          refine cApply hS (gm := g1) (cm := c1) (gh := g2) (ch := c2) (c := riseC M k) (e := exReg (M.getD k 0)) (hS.cf 6 7 rfl rfl (by decide)) HO.out (exReg_fits _) HG.out ?_
          rintro ⟨g5, c5, g6, c6⟩ w8 hS
          dsimp only at hS
          dsimp only
          rw [HC.out (k + 1) g5 c5 g6 c6 (by omega), HC.out k g1 c1 g2 c2 hk]
          clear fs
          have fs := hS.says
          simp only [says, Ck.say] at fs
          refine hK.out _ _ ?_ ?_
          · exact (Facts.cons_at (.inr (by first | exact e1 | simp [fs])) (Facts.cons_at (.inl (by kernel_rfl)) Facts.nil_at))
          clear hK K
          try simp only [Act.put, List.setIfInBounds_toArray, List.set_cons_zero, List.set_cons_succ]
          refine' GoL.take 8 [] ?_ ?_ ?_ ?_ ?_
          rotate_left 3
          · (simp only [List.getElem?_toArray, List.getElem?_cons_succ, List.getElem?_cons_zero]; rfl)
          · exact fun _ _ _ h => h
          · (refine Or.inl ⟨by first | kernel_rfl | (simp [Region.wanted, yielded]), ?_⟩; intro w hSw; clear hSw; go_simp; first | done | with_reducible rfl)
          rotate_left 1
          · kernel_rfl
          simp only [Act.put, List.setIfInBounds_toArray, List.set_cons_zero, List.set_cons_succ]
          refine' GoL.take 9 [] ?_ ?_ ?_ ?_ ?_
          rotate_left 3
          · (simp only [List.getElem?_toArray, List.getElem?_cons_succ, List.getElem?_cons_zero]; rfl)
          · exact fun _ _ _ h => h
          · (refine Or.inl ⟨by first | kernel_rfl | (simp [Region.wanted, yielded]), ?_⟩; intro w hSw; clear hSw; go_simp; first | done | with_reducible rfl)
          rotate_left 1
          · kernel_rfl
          simp only [Act.put, List.setIfInBounds_toArray, List.set_cons_zero, List.set_cons_succ]
          refine' GoL.take 10 [] ?_ ?_ ?_ ?_ ?_
          rotate_left 3
          · (simp only [List.getElem?_toArray, List.getElem?_cons_succ, List.getElem?_cons_zero]; rfl)
          · exact fun _ _ _ h => h
          · (refine Or.inl ⟨by first | kernel_rfl | (simp [Region.wanted, yielded]), ?_⟩; intro w hSw; clear hSw; go_simp; first | done | with_reducible rfl)
          rotate_left 1
          · kernel_rfl
          simp only [Act.put, List.setIfInBounds_toArray, List.set_cons_zero, List.set_cons_succ]
          refine GoL.ready [12] (by kernel_rfl) (by simp) ?_
          refine GoL.one (by (simp only [List.getElem?_toArray, List.getElem?_cons_succ, List.getElem?_cons_zero]; rfl)) (fun K hK => ?_) ?_
          · go_simp
            have hS := ((((hS.set 2 rfl 0 (.slice (some ⟨g5, 0, none⟩) n c5)).set 2 rfl 1 (.slice (some ⟨g6, 0, none⟩) n c6)).set 2 rfl 2 (.int .i64 1)).set 2 rfl 3 (.bool false))
            simp only [List.set_cons_zero, List.set_cons_succ, List.setIfInBounds_toArray] at hS
            generalize ((((w8.setCell ⟨x12, 0, none⟩ (.slice (some ⟨g5, 0, none⟩) n c5)).setCell ⟨x12, 1, none⟩ (.slice (some ⟨g6, 0, none⟩) n c6)).setCell ⟨x12, 2, none⟩ (.int .i64 1)).setCell ⟨x12, 3, none⟩ (.bool false)) = wb at *
            clear fs
            have fs := hS.says
            simp only [says, Ck.say] at fs
            refine hK.out _ _ ?_ ?_
            · exact (Facts.cons_at (.inr (by first | exact e1 | simp [fs])) (Facts.cons_at (.inl (by kernel_rfl)) Facts.nil_at))
            clear hK K
            try simp only [Act.put, List.setIfInBounds_toArray, List.set_cons_zero, List.set_cons_succ]
            refine' GoL.take 13 [] ?_ ?_ ?_ ?_ ?_
            rotate_left 3
            · (simp only [List.getElem?_toArray, List.getElem?_cons_succ, List.getElem?_cons_zero]; rfl)
            · exact fun _ _ _ h => h
            · (refine Or.inl ⟨by first | kernel_rfl | (simp [Region.wanted, yielded]), ?_⟩; intro w hSw; clear hSw; go_simp; first | done | with_reducible rfl)
            rotate_left 1
            · kernel_rfl
            simp only [Act.put, List.setIfInBounds_toArray, List.set_cons_zero, List.set_cons_succ]
            refine GoL.done (by kernel_rfl) ?_
            go_wp2_with fail
            go_roundw
            case rel => exact ⟨k + 1, (g5, c5, g6, c6), by omega, by first | rfl | go_num, ((((hS.set 7 rfl 0 (.slice (some ⟨g5, 0, none⟩) n c5)).set 7 rfl 1 (.slice (some ⟨g6, 0, none⟩) n c6)).set 7 rfl 2 (.int .i64 1)).set 7 rfl 3 (.bool false)).pick [6, 7, 0, 1] (by decide) rfl⟩
            case measure => simp [intOf]; omega
          exact AllL.nil
        exact AllL.nil
      exact AllL.nil
    · obtain rfl : k = n := by omega
      have HO := Lib.hid (HR.out.ok k (by rw [HL.out]; exact hk))
      have HU : Hid (tellC (riseC M k) exE = (⟨M, List.replicate k 2, 2, false⟩, 0)) := by have := HR.out.last; rw [HL.out] at this; exact this
      have HF := Lib.hid HR.out.fin
      have H3 := Lib.hid HR.out.low3
      have H2 := Lib.hid HR.out.low2
      have K2 := Lib.hid HR.out.ok2
      have K3 := Lib.hid HR.out.ok3
      rw [HL.out] at HF H3 H2 K2 K3
      have HD : Hid (∀ (v : Int) (f : Bool) (g c h d : Nat), cfC g c h d ⟨M, List.replicate k 2, v, f⟩ = #[.slice (some ⟨g, 0, none⟩) k c, .slice (some ⟨h, 0, none⟩) k d, .int .i64 v, .bool f]) := by
        intro v f g c h d
        unfold cfC ivV
        simp [HL.out]
      have HD1 : Hid (∀ (g c h d : Nat), cfC g c h d ⟨M, List.replicate k 2, 1, false⟩ = #[.slice (some ⟨g, 0, none⟩) k c, .slice (some ⟨h, 0, none⟩) k d, .int .i64 1, .bool false]) := fun g c h d => HD.out 1 false g c h d
      cases fin with
      | true =>
        go_upto_region 17 with (go_at_call 8; rw [← HC.out k g1 c1 g2 c2 (Nat.le_refl _)]; refine cApply hS (gm := g1) (cm := c1) (gh := g2) (ch := c2) (c := riseC M k) (e := exE) (hS.cf 2 3 rfl rfl (by decide)) HO.out exE_fits HU.out ?_; rintro ⟨g3, c3, g4, c4⟩ w6 hS; dsimp only at hS; dsimp only; rw [HD.out 2 false g3 c3 g4 c4, HC.out k g1 c1 g2 c2 (Nat.le_refl _)]; clear fs; have fs := hS.says; simp only [says, Ck.say] at fs)
        clear fs
        have hS := ((((hS.set 3 rfl 0 (.slice (some ⟨g3, 0, none⟩) k c3)).set 3 rfl 1 (.slice (some ⟨g4, 0, none⟩) k c4)).set 3 rfl 2 (.int .i64 2)).set 3 rfl 3 (.bool false))
        simp only [List.set_cons_zero, List.set_cons_succ, List.setIfInBounds_toArray] at hS
        generalize ((((w6.setCell ⟨cx, 0, none⟩ (.slice (some ⟨g3, 0, none⟩) k c3)).setCell ⟨cx, 1, none⟩ (.slice (some ⟨g4, 0, none⟩) k c4)).setCell ⟨cx, 2, none⟩ (.int .i64 2)).setCell ⟨cx, 3, none⟩ (.bool false)) = w7 at *
        have fs := hS.says
        simp only [says, Ck.say] at fs
        go_upto_region 19 with (go_at_call 8; rw [← HD.out 2 false g3 c3 g4 c4]; refine cApply hS (gm := g3) (cm := c3) (gh := g4) (ch := c4) (c := ⟨M, List.replicate k 2, 2, false⟩) (e := exFin) (hS.cf 0 1 rfl rfl (by decide)) K2.out exFin_fits HF.out ?_; rintro ⟨g5, c5, g6, c6⟩ w8 hS; dsimp only at hS; dsimp only; rw [HD.out 2 true g5 c5 g6 c6, HD.out 2 false g3 c3 g4 c4]; clear fs; have fs := hS.says; simp only [says, Ck.say] at fs)
        clear fs
        have hS := hS.new _ rfl #[.slice (some ⟨g5, 0, none⟩) k c5, .slice (some ⟨g6, 0, none⟩) k c6, .int .i64 2, .bool true] 25
        generalize w8.heap.size = x15 at *
        generalize w8.alloc (.cells #[.slice (some ⟨g5, 0, none⟩) k c5, .slice (some ⟨g6, 0, none⟩) k c6, .int .i64 2, .bool true] 25) = w9 at *
        have fs := hS.says
        simp only [says, Ck.say] at fs
        go_upto_region 22 with fail
        clear fs
        have hS := ((((hS.set 6 rfl 0 (.slice (some ⟨g5, 0, none⟩) k c5)).set 6 rfl 1 (.slice (some ⟨g6, 0, none⟩) k c6)).set 6 rfl 2 (.int .i64 2)).set 6 rfl 3 (.bool true))
        simp only [List.set_cons_zero, List.set_cons_succ, List.setIfInBounds_toArray] at hS
        generalize ((((w9.setCell ⟨cx, 0, none⟩ (.slice (some ⟨g5, 0, none⟩) k c5)).setCell ⟨cx, 1, none⟩ (.slice (some ⟨g6, 0, none⟩) k c6)).setCell ⟨cx, 2, none⟩ (.int .i64 2)).setCell ⟨cx, 3, none⟩ (.bool true)) = wa at *
        have fs := hS.says
        simp only [says, Ck.say] at fs
        go_upto_region 23 with (go_at_call 8; rw [← HD.out 2 true g5 c5 g6 c6]; refine cApply hS (gm := g5) (cm := c5) (gh := g6) (ch := c6) (c := ⟨M, List.replicate k 2, 2, true⟩) (e := exLow) (hS.cf 1 2 rfl rfl (by decide)) K3.out exLow_fits H3.out ?_; rintro ⟨g7, c7, g8, c8⟩ wb hS; dsimp only at hS; dsimp only; rw [HD.out 2 true g7 c7 g8 c8, HD.out 2 true g5 c5 g6 c6]; clear fs; have fs := hS.says; simp only [says, Ck.say] at fs)
        clear fs
        have hS := hS.new _ rfl #[.slice (some ⟨g7, 0, none⟩) k c7, .slice (some ⟨g8, 0, none⟩) k c8, .int .i64 2, .bool true] 25
        generalize wb.heap.size = x17 at *
        generalize wb.alloc (.cells #[.slice (some ⟨g7, 0, none⟩) k c7, .slice (some ⟨g8, 0, none⟩) k c8, .int .i64 2, .bool true] 25) = wc at *
        have fs := hS.says
        simp only [says, Ck.say] at fs
        go_wp2_with (go_at_call 9; rw [← HD.out 2 true g7 c7 g8 c8]; refine Sat.callF hS (lMay g7 c7 g8 c8 ⟨M, List.replicate k 2, 2, true⟩ 2 _ (by decide) (by show (2 : Int) ≤ 2; decide)) (fun wd hS => ?_))
        go_ret
        exact ⟨rfl, hS.fr⟩
      | false =>
        go_upto_region 17 with (go_at_call 8; rw [← HC.out k g1 c1 g2 c2 (Nat.le_refl _)]; refine cApply hS (gm := g1) (cm := c1) (gh := g2) (ch := c2) (c := riseC M k) (e := exE) (hS.cf 2 3 rfl rfl (by decide)) HO.out exE_fits HU.out ?_; rintro ⟨g3, c3, g4, c4⟩ w6 hS; dsimp only at hS; dsimp only; rw [HD.out 2 false g3 c3 g4 c4, HC.out k g1 c1 g2 c2 (Nat.le_refl _)]; clear fs; have fs := hS.says; simp only [says, Ck.say] at fs)
        clear fs
        have hS := ((((hS.set 3 rfl 0 (.slice (some ⟨g3, 0, none⟩) k c3)).set 3 rfl 1 (.slice (some ⟨g4, 0, none⟩) k c4)).set 3 rfl 2 (.int .i64 2)).set 3 rfl 3 (.bool false))
        simp only [List.set_cons_zero, List.set_cons_succ, List.setIfInBounds_toArray] at hS
        generalize ((((w6.setCell ⟨cx, 0, none⟩ (.slice (some ⟨g3, 0, none⟩) k c3)).setCell ⟨cx, 1, none⟩ (.slice (some ⟨g4, 0, none⟩) k c4)).setCell ⟨cx, 2, none⟩ (.int .i64 2)).setCell ⟨cx, 3, none⟩ (.bool false)) = w7 at *
        have fs := hS.says
        simp only [says, Ck.say] at fs
        go_upto_region 23 with (go_at_call 8; rw [← HD.out 2 false g3 c3 g4 c4]; refine cApply hS (gm := g3) (cm := c3) (gh := g4) (ch := c4) (c := ⟨M, List.replicate k 2, 2, false⟩) (e := exLow) (hS.cf 0 1 rfl rfl (by decide)) K2.out exLow_fits H2.out ?_; rintro ⟨g7, c7, g8, c8⟩ wb hS; dsimp only at hS; dsimp only; rw [HD.out 1 false g7 c7 g8 c8, HD.out 2 false g3 c3 g4 c4]; clear fs; have fs := hS.says; simp only [says, Ck.say] at fs)
        clear fs
        have hS := hS.new _ rfl #[.slice (some ⟨g7, 0, none⟩) k c7, .slice (some ⟨g8, 0, none⟩) k c8, .int .i64 1, .bool false] 25
        generalize wb.heap.size = x17 at *
        generalize wb.alloc (.cells #[.slice (some ⟨g7, 0, none⟩) k c7, .slice (some ⟨g8, 0, none⟩) k c8, .int .i64 1, .bool false] 25) = wc at *
        have fs := hS.says
        simp only [says, Ck.say] at fs
        go_wp2_with (go_at_call 9; rw [← HD.out 1 false g7 c7 g8 c8]; refine Sat.callF hS (lMayNo g7 c7 g8 c8 ⟨M, List.replicate k 2, 1, false⟩ 2 _ (by decide) (by show (1 : Int) < 2; decide)) (fun wd hS => ?_))
        go_ret
        exact ⟨rfl, hS.fr⟩

theorem lRises (a : Int) (h : 0 ≤ a ∧ a ≤ 255) (fin : Bool) (w : World) : Calls Tryd.prog 3 #[.int .u8 a, .bool fin] w fun e w' => e = .returned (.bool true) ∧ Fr [] w w' := by
  have := lRisesN a.toNat (by omega) fin w
  rwa [show ((a.toNat : Nat) : Int) = a by omega] at this
end Go.Proofs.YtnnpjjehecbljaaDoor
