/-
  Texts of this seat, joined: LPutsW LPutsV LOpen.
-/
import Derived.Test.YtnnpjjehecbljaaGreatDoorW13
import Derived.Test.YtnnpjjehecbljaaGreatDoorRows
import Derived.Lay
import Derived.Handed
import Derived.LaidLaws
import Derived.WalkKit
set_option linter.unusedSimpArgs false
set_option linter.unusedVariables false
namespace Go.Proofs.YtnnpjjehecbljaaGreatDoor
open List renaming getElem?_toArray → lg0, getElem?_cons_succ → lg1, getElem?_cons_zero → lg2, setIfInBounds_toArray → lt0', set_cons_zero → lt1', set_cons_succ → lt2'
open Go.RowKit
set_option linter.unusedSimpArgs false

theorem emptyB (p : ByteArray) (h : 0 < p.size) : p.toList.isEmpty = false := by
  rw [Lib.toList_data]
  cases h2 : p.data.toList with
  | nil => exact absurd (show p.data.toList.length = 0 by rw [h2]; rfl) (by show ¬ p.size = 0; omega)
  | cons _ _ => rfl
theorem wrap_small {x : Int} (h0 : 0 ≤ x) (h1 : x < 4294967296) : IntKind.i64.wrap x = x := by
  rw [IntWalk.i64_left]
  unfold wrap64
  omega
theorem str_one (c : UInt8) (w : World) :
    (convert 47 9 (.slice (some ⟨w.heap.size, 0, none⟩) 1 1)).run Tryz.prog (w.alloc (.cells #[.int .u8 (c.toNat : Nat)] 5)) = .ok (.string (bs [c])) (w.alloc (.cells #[.int .u8 (c.toNat : Nat)] 5)) := by
  refine run_convert_bytes_back (P := Tryz.prog) _ 47 9 5 ⟨w.heap.size, 0, none⟩ 1 [c] Tryz.underlying47 Tryz.underlying5 Tryz.underlying9 ?_
  intro j hj
  obtain rfl : j = 0 := by simpa using hj
  rw [show (⟨w.heap.size, 0, none⟩ : Addr).add 0 = ⟨w.heap.size, 0, none⟩ from rfl, (Blk.new w #[.int .u8 (c.toNat : Nat)] 5).cell]
  simp
def lvlK (k : Nat) : Int := if k = 0 then 1 else 2
def finK (k : Nat) (fin : Bool) : Bool := if k = 0 then false else fin
theorem putC_more (c : Cfg) (h : c.ok = true) (x : UInt8) : (0 : Nat) < (rawC (putC c ++ [x])).2.1.1.length := by
  rw [rawC_put c h]
  exact Nat.zero_lt_one

set_option maxRecDepth 100000 in
set_option maxHeartbeats 16000000 in
theorem lPutsN (b : Nat) (hb : b < 256) (up fin : Bool) (cut : Nat) (hcut : cut < 256) (more : UInt8) (w : World) :
    Calls Tryz.prog 5 #[.int .u8 (b : Nat), .bool up, .bool fin, .int .u8 (cut : Nat), .int .u8 (more.toNat : Nat)] w fun e w' => e = .returned (.bool true) ∧ Fr [] w w' := by
  have hS := Sat.refl [] w
  have hsl := someL_len b
  have HA := Lib.hid (baseC_ok (some_new ⟨b, hb⟩) up fin)
  dsimp only at HA
  have hc0 : newC (someL b) = ⟨memL (someL b), halfG (memL (someL b)).length 0, 1, false⟩ := by unfold newC halfG; simp
  go_enter Tryz.func5, Tryz.ntmps5
  go_upto_region 7 with (first
    | (go_at_call 6; refine Sat.callF hS (lExamples _) (fun w1 hS => ?_))
    | (go_at_call 8; refine Sat.call0 hS (lSome b hb _) (fun ⟨g0, c0⟩ w2 hS => ?_); dsimp only [List.cons_append, List.nil_append] at hS)
    | (go_at_call 7; refine cNew hS (L := someL b) (hS.mem 0 rfl) (someL_ne b) (by omega) (some_ok hb) hc0 rfl ?_; rintro ⟨g1, c1, g2, c2⟩ w3 hS; dsimp only at hS; simp only [cfC, ivV, halfG_len (Nat.zero_le _)]))
  generalize hM : memL (someL b) = M at *
  clear hM hc0 hsl
  have hM7 : M.length ≤ 7 ∧ 1 ≤ M.length := by have := (Cfg.ok_iff _).1 HA.out; have h1 : (baseC M up fin).M = M := (by cases up <;> rfl); rw [h1] at this; omega
  generalize hn : M.length = n at *
  have HN := Lib.hid hn
  clear hn
  have hS := hS.new _ rfl #[.slice (some ⟨g1, 0, none⟩) n c1, .slice (some ⟨g2, 0, none⟩) n c2, .int .i64 1, .bool false] 30
  generalize w3.heap.size = cx at *
  generalize w3.alloc (.cells #[.slice (some ⟨g1, 0, none⟩) n c1, .slice (some ⟨g2, 0, none⟩) n c2, .int .i64 1, .bool false] 30) = w4 at *
  have fs := hS.says
  simp only [says, Ck.say] at fs
  go_wp2_with fail
  go_loopw [14] (fun i wr => ∃ k : Nat, k ≤ n ∧ i = .int .i64 k ∧ Hid (up = false → k = 0) ∧ Hid (Sat [] w [(cx, .cel #[.slice (some ⟨g1, 0, none⟩) n c1, .slice (some ⟨g2, 0, none⟩) n c2, .int .i64 (lvlK k), .bool (finK k fin)] 30), (g1, ivCh 3 c1 M), (g2, ivCh 3 c2 (halfG n k))] wr)) (fun i _ => n - (intOf i).toNat)
  case atStart => exact ⟨0, Nat.zero_le _, rfl, fun _ => rfl, hS.pick [0, 1, 2] (by decide) rfl⟩
  case round =>
    clear hS fs
    obtain ⟨k, hk, rfl, HU, hS⟩ := hrel
    have hS := hS.out
    have fs := hS.says
    simp only [says, Ck.say] at fs
    cases up with
    | true =>
      by_cases hlt : k < n
      · have e2 : wr.cell? ⟨g2, k, none⟩ = some (.int .i64 1) := by
          have h1 := (hS.mem 2 rfl).says
          simp only [Ck.say, List.length_map, halfG_len hk] at h1
          rw [h1.1 k hlt, halfG_get hlt]
        have H0 : Hid (true = false → k + 1 = 0) := by intro h; cases h
        go_upto_region 11 with fail
        have hS := hS.setRow 2 rfl k (.int .i64 2)
        rw [halfG_set hlt] at hS
        dsimp only [List.set_cons_succ, List.set_cons_zero] at hS
        generalize (wr.setCell ⟨g2, k, none⟩ (.int .i64 2)) = wa at *
        clear e2
        clear fs; have fs := hS.says; simp only [says, Ck.say] at fs
        go_upto_region 12 with fail
        have hS := hS.set 0 rfl 2 (.int .i64 2)
        simp only [List.set_cons_zero, List.setIfInBounds_toArray, List.set_cons_succ] at hS
        generalize (wa.setCell ⟨cx, 2, none⟩ (.int .i64 2)) = wb at *
        clear fs; have fs := hS.says; simp only [says, Ck.say] at fs
        go_wp2_with fail
        have hS := hS.set 0 rfl 3 (.bool fin)
        simp only [List.set_cons_zero, List.setIfInBounds_toArray, List.set_cons_succ] at hS
        go_roundw
        case rel => exact ⟨k + 1, by omega, by first | rfl | go_num, H0, hS⟩
        case measure => simp [intOf]; omega
      · obtain rfl : k = n := by omega
        have HC : Hid (baseC M true fin = ⟨M, halfG k k, lvlK k, finK k fin⟩) := by
          have h0 : ¬ k = 0 := by omega
          show _ = _
          rw [base_half_t HN.out]
          unfold lvlK finK
          rw [if_neg h0, if_neg h0]
        have hok := HA.out
        rw [HC.out] at hok
        clear HC
        generalize lvlK k = LV at *
        generalize finK k fin = FN at *
        have HOK := Lib.hid hok
        have EC : Hid ((#[.slice (some ⟨g1, 0, none⟩) k c1, .slice (some ⟨g2, 0, none⟩) k c2, .int .i64 LV, .bool FN] : Array Value) = cfC g1 c1 g2 c2 ⟨M, halfG k k, LV, FN⟩) := by
          show _ = _
          unfold cfC ivV
          rw [HN.out, halfG_len (by omega)]
        have hpl := putC_length _ hok
        have hsh := fun j hj => rawC_short _ hok j hj
        have hmo := putC_more _ hok more
        clear hok
        generalize hP : putC ⟨M, halfG k k, LV, FN⟩ = P at *
        rw [show (Cfg.M ⟨M, halfG k k, LV, FN⟩).length = k from HN.out] at hpl hsh
        have HP := Lib.hid hP
        have HSH := Lib.hid hsh
        have HMO := Lib.hid hmo
        clear hP hsh hmo
        have hsz : (bs P).size = 3 + 2 * k := by rw [bs_size]; exact hpl
        go_upto_region 14 with (go_at_call 14; rw [EC.out]; refine Sat.callF hS (lPut g1 c1 g2 c2 ⟨M, halfG k k, LV, FN⟩ _ (hS.cf 1 2 rfl rfl (by decide)) HOK.out) (fun wa hS => ?_); dsimp only; rw [HP.out]; clear fs; have fs := hS.says; simp only [says, Ck.say] at fs)
        have HL : Hid ((halfG k k).length = k) := halfG_len (by omega)
        have hem : (bs P).toList.isEmpty = false := emptyB _ (by omega)
        go_upto_region 16 with fail
        clear hem
        go_upto_region 17 with (go_at_call 15; refine cGetYes hS ⟨M, halfG k k, LV, FN⟩ HOK.out HP.out.symm ?_; rintro ⟨g5, c5, h5, d5⟩ wb hS; dsimp only at hS; simp only [cfC, ivV, HN.out, HL.out]; clear fs; have fs := hS.says; simp only [says, Ck.say] at fs)
        have hS := hS.new _ rfl #[.slice (some ⟨g5, 0, none⟩) k c5, .slice (some ⟨h5, 0, none⟩) k d5, .int .i64 LV, .bool FN] 30
        generalize wb.heap.size = xx at *
        generalize wb.alloc (.cells #[.slice (some ⟨g5, 0, none⟩) k c5, .slice (some ⟨h5, 0, none⟩) k d5, .int .i64 LV, .bool FN] 30) = wc at *
        clear fs; have fs := hS.says; simp only [says, Ck.say] at fs
        have EX : Hid ((#[.slice (some ⟨g5, 0, none⟩) k c5, .slice (some ⟨h5, 0, none⟩) k d5, .int .i64 LV, .bool FN] : Array Value) = cfC g5 c5 h5 d5 ⟨M, halfG k k, LV, FN⟩) := by
          show _ = _
          unfold cfC ivV
          rw [HN.out, HL.out]
        have HZ := Lib.hid hsz
        have hw : ∀ c : Int, c = (cut : Int) → wrap64 c = (cut : Int) := by rintro _ rfl; unfold wrap64; omega
        obtain ⟨j, hj⟩ : ∃ j, cut % (bs P).size = j := ⟨_, rfl⟩
        have hmod : ∀ c : Int, c = (cut : Int) → c.tmod ((bs P).size : Int) = (j : Int) := by rintro _ rfl; rw [Int.tmod_eq_emod_of_nonneg (Int.natCast_nonneg _), ← hj]; rfl
        have hjlt : j < (bs P).size := by rw [← hj]; exact Nat.mod_lt _ (by omega)
        have hj0 : (0 : Int) ≤ (j : Int) ∧ (j : Int) ≤ ((bs P).size : Int) := by omega
        have HJ : Hid (j < 3 + 2 * k) := by show _ < _; omega
        have hs0 : ((bs P).size : Int) ≠ 0 := by omega
        have HL2 := Lib.hid hpl
        clear hpl hj hsz
        go_upto_region 18 with (go_at_call 15; rw [bs_ext, List.drop_zero]; refine cGetNo hS (by rw [List.length_take, HL2.out]; unfold maxLen; omega) (.inl (HSH.out j HJ.out)) ?_; intro wd hS; clear fs; have fs := hS.says; simp only [says, Ck.say] at fs)
        have hS := hS.new _ rfl #[.slice none 0 0, .slice none 0 0, .int .i64 0, .bool false] 30
        generalize wd.heap.size = x2 at *
        generalize wd.alloc (.cells #[.slice none 0 0, .slice none 0 0, .int .i64 0, .bool false] 30) = we at *
        clear fs; have fs := hS.says; simp only [says, Ck.say] at fs
        have hstr := fun w => str_one more w
        have hone : (bs [more]).size = 1 := bs_size [more]
        have hcat : ¬ 9223372036854775807 < (bs P).size + (bs [more]).size := by have := HZ.out; omega
        go_upto_region 19 with (go_at_call 15; rw [bs_append]; refine cGetNo (hS.new _ rfl #[.int .u8 (more.toNat : Nat)] 5) (by rw [List.length_append, HL2.out]; unfold maxLen; simp; omega) (.inr HMO.out) ?_; intro wf hS; clear fs; have fs := hS.says; simp only [says, Ck.say] at fs)
        have hS := hS.new _ rfl #[.slice none 0 0, .slice none 0 0, .int .i64 0, .bool false] 30
        generalize wf.heap.size = x3 at *
        generalize wf.alloc (.cells #[.slice none 0 0, .slice none 0 0, .int .i64 0, .bool false] 30) = wg at *
        clear hstr hone hcat
        clear fs; have fs := hS.says; simp only [says, Ck.say] at fs
        have HE : Hid ((((bs P).size : Int) == IntKind.i64.wrap (3 + IntKind.i64.wrap (2 * (k : Int)))) = true) := by
          have h9 := HZ.out
          show _ = _
          rw [wrap_small (x := 2 * (k : Int)) (by omega) (by omega), wrap_small (by omega) (by omega), beq_iff_eq]
          omega
        clear hs0 hj0 hjlt
        refine GoL.begin [(none, fun w => ∀ i, w.cell? ⟨xx, i, none⟩ = #[.slice (some ⟨g5, 0, none⟩) k c5, .slice (some ⟨h5, 0, none⟩) k d5, .int .i64 LV, .bool FN][i]?), (none, fun w => ∀ i, w.cell? ⟨cx, i, none⟩ = #[.slice (some ⟨g1, 0, none⟩) k c1, .slice (some ⟨g2, 0, none⟩) k c2, .int .i64 LV, .bool FN][i]?)] (by kernel_rfl) ?_ ?_
        · exact (Facts.cons_at (.inr (by simp [fs])) (Facts.cons_at (.inr (by simp [fs])) Facts.nil_at))
        have hS := hS.drew
        clear fs
        have fs := hS.says
        simp only [says, Ck.say] at fs
        generalize wg.drew = wy at *
        refine' GoL.take 0 [] ?_ ?_ ?_ ?_ ?_
        rotate_left 3
        · (simp only [lg0, lg1, lg2]; rfl)
        · exact fun _ _ _ h => h
        · (refine Or.inl ⟨by first | kernel_rfl | (simp [Region.wanted, yielded]), ?_⟩; intro w hSw; clear hSw; go_simp; first | done | with_reducible rfl)
        rotate_left 1
        · kernel_rfl
        simp only [Act.put, lt0', lt1', lt2']
        refine' GoL.take 1 [] ?_ ?_ ?_ ?_ ?_
        rotate_left 3
        · (simp only [lg0, lg1, lg2]; rfl)
        · exact fun _ _ _ h => h
        · (refine Or.inl ⟨by first | kernel_rfl | (simp [Region.wanted, yielded]), ?_⟩; intro w hSw; clear hSw; go_simp; first | done | with_reducible rfl)
        rotate_left 1
        · kernel_rfl
        simp only [Act.put, lt0', lt1', lt2']
        refine' GoL.take 2 [] ?_ ?_ ?_ ?_ ?_
        rotate_left 3
        · (simp only [lg0, lg1, lg2]; rfl)
        · exact fun _ _ _ h => h
        · (refine Or.inl ⟨by first | kernel_rfl | (simp [Region.wanted, yielded]), ?_⟩; intro w hSw; clear hSw; go_simp; first | done | with_reducible rfl)
        rotate_left 1
        · kernel_rfl
        simp only [Act.put, lt0', lt1', lt2']
        refine' GoL.take 3 [] ?_ ?_ ?_ ?_ ?_
        rotate_left 3
        · (simp only [lg0, lg1, lg2]; rfl)
        · exact fun _ _ _ h => h
        · (refine Or.inl ⟨by first | kernel_rfl | (simp [Region.wanted, yielded]), ?_⟩; intro w hSw; clear hSw; go_simp; first | done | with_reducible rfl)
        rotate_left 1
        · kernel_rfl
        simp only [Act.put, lt0', lt1', lt2']
        refine' GoL.take 4 [] ?_ ?_ ?_ ?_ ?_
        rotate_left 3
        · (simp only [lg0, lg1, lg2]; rfl)
        · exact fun _ _ _ h => h
        · (refine Or.inl ⟨by first | kernel_rfl | (simp [Region.wanted, yielded]), ?_⟩; intro w hSw; clear hSw; go_simp; first | done | with_reducible rfl)
        rotate_left 1
        · kernel_rfl
        simp only [Act.put, lt0', lt1', lt2']
        refine' GoL.take 5 [] ?_ ?_ ?_ ?_ ?_
        rotate_left 3
        · (simp only [lg0, lg1, lg2]; rfl)
        · exact fun _ _ _ h => h
        · (refine Or.inl ⟨by first | kernel_rfl | (simp [Region.wanted, yielded]), ?_⟩; intro w hSw; have f0 := Facts.get hSw 0 rfl (by decide); (try dsimp only at f0); clear hSw; go_simp; first | done | with_reducible rfl)
        rotate_left 1
        · kernel_rfl
        simp only [Act.put, lt0', lt1', lt2']
        refine' GoL.take 7 [] ?_ ?_ ?_ ?_ ?_
        rotate_left 3
        · (simp only [lg0, lg1, lg2]; rfl)
        · exact fun _ _ _ h => h
        · (refine Or.inl ⟨by first | kernel_rfl | (simp [Region.wanted, yielded]), ?_⟩; intro w hSw; have f1 := Facts.get hSw 1 rfl (by decide); (try dsimp only at f1); clear hSw; go_simp; first | done | with_reducible rfl)
        rotate_left 1
        · kernel_rfl
        simp only [Act.put, lt0', lt1', lt2']
        refine GoL.ready [6] (by kernel_rfl) (by simp) ?_
        refine GoL.one (by (simp only [lg0, lg1, lg2]; rfl)) (fun K hK => ?_) ?_
        · go_simp
          rw [EX.out]
          refine Sat.callF hS (lText g5 c5 h5 d5 ⟨M, halfG k k, LV, FN⟩ _ (hS.cf 4 5 rfl rfl (by decide)) HOK.out) (fun wh hS => ?_)
          clear fs
          have fs := hS.says
          simp only [says, Ck.say] at fs
          refine hK.out _ _ ?_ ?_
          · exact (Facts.cons_at (.inr (by simp [fs])) (Facts.cons_at (.inr (by simp [fs])) Facts.nil_at))
          clear hK K
          try simp only [Act.put, lt0', lt1', lt2']
          refine GoL.ready [8] (by kernel_rfl) (by simp) ?_
          refine GoL.one (by (simp only [lg0, lg1, lg2]; rfl)) (fun K hK => ?_) ?_
          · go_simp
            rw [EC.out]
            refine Sat.callF hS (lText g1 c1 g2 c2 ⟨M, halfG k k, LV, FN⟩ _ (hS.cf 7 8 rfl rfl (by decide)) HOK.out) (fun wi hS => ?_)
            clear fs
            have fs := hS.says
            simp only [says, Ck.say] at fs
            refine hK.out _ _ ?_ ?_
            · exact (Facts.cons_at (.inr (by simp [fs])) (Facts.cons_at (.inr (by simp [fs])) Facts.nil_at))
            clear hK K
            try simp only [Act.put, lt0', lt1', lt2']
            refine' GoL.take 9 [] ?_ ?_ ?_ ?_ ?_
            rotate_left 3
            · (simp only [lg0, lg1, lg2]; rfl)
            · exact fun _ _ _ h => h
            · (refine Or.inl ⟨by first | kernel_rfl | (simp [Region.wanted, yielded]), ?_⟩; intro w hSw; clear hSw; go_simp; first | done | with_reducible rfl)
            rotate_left 1
            · kernel_rfl
            simp only [Act.put, lt0', lt1', lt2']
            refine' GoL.take 10 [] ?_ ?_ ?_ ?_ ?_
            rotate_left 3
            · (simp only [lg0, lg1, lg2]; rfl)
            · exact fun _ _ _ h => h
            · (refine Or.inl ⟨by first | kernel_rfl | (simp [Region.wanted, yielded]), ?_⟩; intro w hSw; clear hSw; go_simp; first | done | with_reducible rfl)
            rotate_left 1
            · kernel_rfl
            simp only [Act.put, lt0', lt1', lt2']
            refine' GoL.take 11 [] ?_ ?_ ?_ ?_ ?_
            rotate_left 3
            · (simp only [lg0, lg1, lg2]; rfl)
            · exact fun _ _ _ h => h
            · (refine Or.inl ⟨by first | kernel_rfl | (simp [Region.wanted, yielded]), ?_⟩; intro w hSw; clear hSw; go_simp; first | done | with_reducible rfl)
            rotate_left 1
            · kernel_rfl
            simp only [Act.put, lt0', lt1', lt2']
            refine' GoL.take 12 [] ?_ ?_ ?_ ?_ ?_
            rotate_left 3
            · (simp only [lg0, lg1, lg2]; rfl)
            · exact fun _ _ _ h => h
            · (refine Or.inl ⟨by first | kernel_rfl | (simp [Region.wanted, yielded]), ?_⟩; intro w hSw; clear hSw; go_simp; first | done | with_reducible rfl)
            rotate_left 1
            · kernel_rfl
            simp only [Act.put, lt0', lt1', lt2']
            refine' GoL.take 13 [] ?_ ?_ ?_ ?_ ?_
            rotate_left 3
            · (simp only [lg0, lg1, lg2]; rfl)
            · exact fun _ _ _ h => h
            · (refine Or.inl ⟨by first | kernel_rfl | (simp [Region.wanted, yielded]), ?_⟩; intro w hSw; clear hSw; go_simp; first | done | with_reducible rfl)
            rotate_left 1
            · kernel_rfl
            simp only [Act.put, lt0', lt1', lt2']
            refine' GoL.take 14 [] ?_ ?_ ?_ ?_ ?_
            rotate_left 3
            · (simp only [lg0, lg1, lg2]; rfl)
            · exact fun _ _ _ h => h
            · (refine Or.inl ⟨by first | kernel_rfl | (simp [Region.wanted, yielded]), ?_⟩; intro w hSw; clear hSw; go_simp; first | done | with_reducible rfl)
            rotate_left 1
            · kernel_rfl
            simp only [Act.put, lt0', lt1', lt2']
            refine' GoL.take 15 [] ?_ ?_ ?_ ?_ ?_
            rotate_left 3
            · (simp only [lg0, lg1, lg2]; rfl)
            · exact fun _ _ _ h => h
            · (refine Or.inl ⟨by first | kernel_rfl | (simp [Region.wanted, yielded]), ?_⟩; intro w hSw; clear hSw; go_simp; first | done | with_reducible rfl)
            rotate_left 1
            · kernel_rfl
            simp only [Act.put, lt0', lt1', lt2']
            refine' GoL.take 16 [] ?_ ?_ ?_ ?_ ?_
            rotate_left 3
            · (simp only [lg0, lg1, lg2]; rfl)
            · exact fun _ _ _ h => h
            · (refine Or.inl ⟨by first | kernel_rfl | (simp [Region.wanted, yielded]), ?_⟩; intro w hSw; clear hSw; go_simp; first | done | with_reducible rfl)
            rotate_left 1
            · kernel_rfl
            simp only [Act.put, lt0', lt1', lt2']
            refine' GoL.take 17 [] ?_ ?_ ?_ ?_ ?_
            rotate_left 3
            · (simp only [lg0, lg1, lg2]; rfl)
            · exact fun _ _ _ h => h
            · (refine Or.inl ⟨by first | kernel_rfl | (simp [Region.wanted, yielded]), ?_⟩; intro w hSw; clear hSw; go_simp; first | done | with_reducible rfl)
            rotate_left 1
            · kernel_rfl
            simp only [Act.put, lt0', lt1', lt2']
            refine' GoL.take 18 [] ?_ ?_ ?_ ?_ ?_
            rotate_left 3
            · (simp only [lg0, lg1, lg2]; rfl)
            · exact fun _ _ _ h => h
            · (refine Or.inl ⟨by first | kernel_rfl | (simp [Region.wanted, yielded]), ?_⟩; intro w hSw; clear hSw; go_simp; first | done | with_reducible rfl)
            rotate_left 1
            · kernel_rfl
            simp only [Act.put, lt0', lt1', lt2']
            refine' GoL.take 19 [] ?_ ?_ ?_ ?_ ?_
            rotate_left 3
            · (simp only [lg0, lg1, lg2]; rfl)
            · exact fun _ _ _ h => h
            · (refine Or.inl ⟨by first | kernel_rfl | (simp [Region.wanted, yielded]), ?_⟩; intro w hSw; clear hSw; go_simp; first | done | with_reducible rfl)
            rotate_left 1
            · kernel_rfl
            simp only [Act.put, lt0', lt1', lt2']
            refine' GoL.take 20 [] ?_ ?_ ?_ ?_ ?_
            rotate_left 3
            · (simp only [lg0, lg1, lg2]; rfl)
            · exact fun _ _ _ h => h
            · (refine Or.inl ⟨by first | kernel_rfl | (simp [Region.wanted, yielded]), ?_⟩; intro w hSw; clear hSw; go_simp; first | done | with_reducible rfl)
            rotate_left 1
            · kernel_rfl
            simp only [Act.put, lt0', lt1', lt2']
            refine' GoL.take 21 [] ?_ ?_ ?_ ?_ ?_
            rotate_left 3
            · (simp only [lg0, lg1, lg2]; rfl)
            · exact fun _ _ _ h => h
            · (refine Or.inl ⟨by first | kernel_rfl | (simp [Region.wanted, yielded]), ?_⟩; intro w hSw; clear hSw; go_simp; first | done | with_reducible rfl)
            rotate_left 1
            · kernel_rfl
            simp only [Act.put, lt0', lt1', lt2']
            refine' GoL.take 22 [] ?_ ?_ ?_ ?_ ?_
            rotate_left 3
            · (simp only [lg0, lg1, lg2]; rfl)
            · exact fun _ _ _ h => h
            · (refine Or.inl ⟨by first | kernel_rfl | (simp [Region.wanted, yielded]), ?_⟩; intro w hSw; clear hSw; go_simp; first | done | with_reducible rfl)
            rotate_left 1
            · kernel_rfl
            simp only [Act.put, lt0', lt1', lt2']
            refine' GoL.take 23 [] ?_ ?_ ?_ ?_ ?_
            rotate_left 3
            · (simp only [lg0, lg1, lg2]; rfl)
            · exact fun _ _ _ h => h
            · (refine Or.inl ⟨by first | kernel_rfl | (simp [Region.wanted, yielded]), ?_⟩; intro w hSw; have f1 := Facts.get hSw 1 rfl (by decide); (try dsimp only at f1); clear hSw; go_simp; first | done | with_reducible rfl)
            rotate_left 1
            · kernel_rfl
            simp only [Act.put, lt0', lt1', lt2']
            refine' GoL.take 24 [] ?_ ?_ ?_ ?_ ?_
            rotate_left 3
            · (simp only [lg0, lg1, lg2]; rfl)
            · exact fun _ _ _ h => h
            · (refine Or.inl ⟨by first | kernel_rfl | (simp [Region.wanted, yielded]), ?_⟩; intro w hSw; clear hSw; go_simp; first | done | with_reducible rfl)
            rotate_left 1
            · kernel_rfl
            simp only [Act.put, lt0', lt1', lt2']
            refine' GoL.take 25 [] ?_ ?_ ?_ ?_ ?_
            rotate_left 3
            · (simp only [lg0, lg1, lg2]; rfl)
            · exact fun _ _ _ h => h
            · (refine Or.inl ⟨by first | kernel_rfl | (simp [Region.wanted, yielded]), ?_⟩; intro w hSw; clear hSw; go_simp; first | done | with_reducible rfl)
            rotate_left 1
            · kernel_rfl
            simp only [Act.put, lt0', lt1', lt2']
            refine' GoL.take 26 [] ?_ ?_ ?_ ?_ ?_
            rotate_left 3
            · (simp only [lg0, lg1, lg2]; rfl)
            · exact fun _ _ _ h => h
            · (refine Or.inl ⟨by first | kernel_rfl | (simp [Region.wanted, yielded]), ?_⟩; intro w hSw; clear hSw; go_simp; first | done | with_reducible rfl)
            rotate_left 1
            · kernel_rfl
            simp only [Act.put, lt0', lt1', lt2']
            refine' GoL.take 27 [] ?_ ?_ ?_ ?_ ?_
            rotate_left 3
            · (simp only [lg0, lg1, lg2]; rfl)
            · exact fun _ _ _ h => h
            · (refine Or.inl ⟨by first | kernel_rfl | (simp [Region.wanted, yielded]), ?_⟩; intro w hSw; clear hSw; go_simp; first | done | with_reducible rfl)
            rotate_left 1
            · kernel_rfl
            simp only [Act.put, lt0', lt1', lt2']
            refine' GoL.take 28 [] ?_ ?_ ?_ ?_ ?_
            rotate_left 3
            · (simp only [lg0, lg1, lg2]; rfl)
            · exact fun _ _ _ h => h
            · (refine Or.inl ⟨by first | kernel_rfl | (simp [Region.wanted, yielded]), ?_⟩; intro w hSw; clear hSw; go_simp; first | done | with_reducible rfl)
            rotate_left 1
            · kernel_rfl
            simp only [Act.put, lt0', lt1', lt2']
            refine' GoL.take 29 [] ?_ ?_ ?_ ?_ ?_
            rotate_left 3
            · (simp only [lg0, lg1, lg2]; rfl)
            · exact fun _ _ _ h => h
            · (refine Or.inl ⟨by first | kernel_rfl | (simp [Region.wanted, yielded]), ?_⟩; intro w hSw; clear hSw; go_simp; first | done | with_reducible rfl)
            rotate_left 1
            · kernel_rfl
            simp only [Act.put, lt0', lt1', lt2']
            refine GoL.done (by kernel_rfl) ?_
            go_wp2_with fail
            go_ret
            refine ⟨?_, hS.fr⟩
            show Ending.returned (Value.bool (((bs P).size : Int) == IntKind.i64.wrap (3 + IntKind.i64.wrap (2 * (k : Int))))) = _
            rw [HE.out]
          exact AllL.nil
        exact AllL.nil
    | false =>
      obtain rfl : k = 0 := HU.out rfl
      have HC : Hid (baseC M false fin = ⟨M, halfG n 0, lvlK 0, finK 0 fin⟩) := base_half_f HN.out fin
      have hok := HA.out
      rw [HC.out] at hok
      clear HC
      generalize lvlK 0 = LV at *
      generalize finK 0 fin = FN at *
      have HOK := Lib.hid hok
      have EC : Hid ((#[.slice (some ⟨g1, 0, none⟩) n c1, .slice (some ⟨g2, 0, none⟩) n c2, .int .i64 LV, .bool FN] : Array Value) = cfC g1 c1 g2 c2 ⟨M, halfG n 0, LV, FN⟩) := by
        show _ = _
        unfold cfC ivV
        rw [HN.out, halfG_len (by omega)]
      have hpl := putC_length _ hok
      have hsh := fun j hj => rawC_short _ hok j hj
      have hmo := putC_more _ hok more
      clear hok
      generalize hP : putC ⟨M, halfG n 0, LV, FN⟩ = P at *
      rw [show (Cfg.M ⟨M, halfG n 0, LV, FN⟩).length = n from HN.out] at hpl hsh
      have HP := Lib.hid hP
      have HSH := Lib.hid hsh
      have HMO := Lib.hid hmo
      clear hP hsh hmo
      have hsz : (bs P).size = 3 + 2 * n := by rw [bs_size]; exact hpl
      go_upto_region 14 with (go_at_call 14; rw [EC.out]; refine Sat.callF hS (lPut g1 c1 g2 c2 ⟨M, halfG n 0, LV, FN⟩ _ (hS.cf 1 2 rfl rfl (by decide)) HOK.out) (fun wa hS => ?_); dsimp only; rw [HP.out]; clear fs; have fs := hS.says; simp only [says, Ck.say] at fs)
      have HL : Hid ((halfG n 0).length = n) := halfG_len (by omega)
      have hem : (bs P).toList.isEmpty = false := emptyB _ (by omega)
      go_upto_region 16 with fail
      clear hem
      go_upto_region 17 with (go_at_call 15; refine cGetYes hS ⟨M, halfG n 0, LV, FN⟩ HOK.out HP.out.symm ?_; rintro ⟨g5, c5, h5, d5⟩ wb hS; dsimp only at hS; simp only [cfC, ivV, HN.out, HL.out]; clear fs; have fs := hS.says; simp only [says, Ck.say] at fs)
      have hS := hS.new _ rfl #[.slice (some ⟨g5, 0, none⟩) n c5, .slice (some ⟨h5, 0, none⟩) n d5, .int .i64 LV, .bool FN] 30
      generalize wb.heap.size = xx at *
      generalize wb.alloc (.cells #[.slice (some ⟨g5, 0, none⟩) n c5, .slice (some ⟨h5, 0, none⟩) n d5, .int .i64 LV, .bool FN] 30) = wc at *
      clear fs; have fs := hS.says; simp only [says, Ck.say] at fs
      have EX : Hid ((#[.slice (some ⟨g5, 0, none⟩) n c5, .slice (some ⟨h5, 0, none⟩) n d5, .int .i64 LV, .bool FN] : Array Value) = cfC g5 c5 h5 d5 ⟨M, halfG n 0, LV, FN⟩) := by
        show _ = _
        unfold cfC ivV
        rw [HN.out, HL.out]
      have HZ := Lib.hid hsz
      have hw : ∀ c : Int, c = (cut : Int) → wrap64 c = (cut : Int) := by rintro _ rfl; unfold wrap64; omega
      obtain ⟨j, hj⟩ : ∃ j, cut % (bs P).size = j := ⟨_, rfl⟩
      have hmod : ∀ c : Int, c = (cut : Int) → c.tmod ((bs P).size : Int) = (j : Int) := by rintro _ rfl; rw [Int.tmod_eq_emod_of_nonneg (Int.natCast_nonneg _), ← hj]; rfl
      have hjlt : j < (bs P).size := by rw [← hj]; exact Nat.mod_lt _ (by omega)
      have hj0 : (0 : Int) ≤ (j : Int) ∧ (j : Int) ≤ ((bs P).size : Int) := by omega
      have HJ : Hid (j < 3 + 2 * n) := by show _ < _; omega
      have hs0 : ((bs P).size : Int) ≠ 0 := by omega
      have HL2 := Lib.hid hpl
      clear hpl hj hsz
      go_upto_region 18 with (go_at_call 15; rw [bs_ext, List.drop_zero]; refine cGetNo hS (by rw [List.length_take, HL2.out]; unfold maxLen; omega) (.inl (HSH.out j HJ.out)) ?_; intro wd hS; clear fs; have fs := hS.says; simp only [says, Ck.say] at fs)
      have hS := hS.new _ rfl #[.slice none 0 0, .slice none 0 0, .int .i64 0, .bool false] 30
      generalize wd.heap.size = x2 at *
      generalize wd.alloc (.cells #[.slice none 0 0, .slice none 0 0, .int .i64 0, .bool false] 30) = we at *
      clear fs; have fs := hS.says; simp only [says, Ck.say] at fs
      have hstr := fun w => str_one more w
      have hone : (bs [more]).size = 1 := bs_size [more]
      have hcat : ¬ 9223372036854775807 < (bs P).size + (bs [more]).size := by have := HZ.out; omega
      go_upto_region 19 with (go_at_call 15; rw [bs_append]; refine cGetNo (hS.new _ rfl #[.int .u8 (more.toNat : Nat)] 5) (by rw [List.length_append, HL2.out]; unfold maxLen; simp; omega) (.inr HMO.out) ?_; intro wf hS; clear fs; have fs := hS.says; simp only [says, Ck.say] at fs)
      have hS := hS.new _ rfl #[.slice none 0 0, .slice none 0 0, .int .i64 0, .bool false] 30
      generalize wf.heap.size = x3 at *
      generalize wf.alloc (.cells #[.slice none 0 0, .slice none 0 0, .int .i64 0, .bool false] 30) = wg at *
      clear hstr hone hcat
      clear fs; have fs := hS.says; simp only [says, Ck.say] at fs
      have HE : Hid ((((bs P).size : Int) == IntKind.i64.wrap (3 + IntKind.i64.wrap (2 * (n : Int)))) = true) := by
        have h9 := HZ.out
        show _ = _
        rw [wrap_small (x := 2 * (n : Int)) (by omega) (by omega), wrap_small (by omega) (by omega), beq_iff_eq]
        omega
      clear hs0 hj0 hjlt
      refine GoL.begin [(none, fun w => ∀ i, w.cell? ⟨xx, i, none⟩ = #[.slice (some ⟨g5, 0, none⟩) n c5, .slice (some ⟨h5, 0, none⟩) n d5, .int .i64 LV, .bool FN][i]?), (none, fun w => ∀ i, w.cell? ⟨cx, i, none⟩ = #[.slice (some ⟨g1, 0, none⟩) n c1, .slice (some ⟨g2, 0, none⟩) n c2, .int .i64 LV, .bool FN][i]?)] (by kernel_rfl) ?_ ?_
      · exact (Facts.cons_at (.inr (by simp [fs])) (Facts.cons_at (.inr (by simp [fs])) Facts.nil_at))
      have hS := hS.drew
      clear fs
      have fs := hS.says
      simp only [says, Ck.say] at fs
      generalize wg.drew = wy at *
      refine' GoL.take 0 [] ?_ ?_ ?_ ?_ ?_
      rotate_left 3
      · (simp only [lg0, lg1, lg2]; rfl)
      · exact fun _ _ _ h => h
      · (refine Or.inl ⟨by first | kernel_rfl | (simp [Region.wanted, yielded]), ?_⟩; intro w hSw; clear hSw; go_simp; first | done | with_reducible rfl)
      rotate_left 1
      · kernel_rfl
      simp only [Act.put, lt0', lt1', lt2']
      refine' GoL.take 1 [] ?_ ?_ ?_ ?_ ?_
      rotate_left 3
      · (simp only [lg0, lg1, lg2]; rfl)
      · exact fun _ _ _ h => h
      · (refine Or.inl ⟨by first | kernel_rfl | (simp [Region.wanted, yielded]), ?_⟩; intro w hSw; clear hSw; go_simp; first | done | with_reducible rfl)
      rotate_left 1
      · kernel_rfl
      simp only [Act.put, lt0', lt1', lt2']
      refine' GoL.take 2 [] ?_ ?_ ?_ ?_ ?_
      rotate_left 3
      · (simp only [lg0, lg1, lg2]; rfl)
      · exact fun _ _ _ h => h
      · (refine Or.inl ⟨by first | kernel_rfl | (simp [Region.wanted, yielded]), ?_⟩; intro w hSw; clear hSw; go_simp; first | done | with_reducible rfl)
      rotate_left 1
      · kernel_rfl
      simp only [Act.put, lt0', lt1', lt2']
      refine' GoL.take 3 [] ?_ ?_ ?_ ?_ ?_
      rotate_left 3
      · (simp only [lg0, lg1, lg2]; rfl)
      · exact fun _ _ _ h => h
      · (refine Or.inl ⟨by first | kernel_rfl | (simp [Region.wanted, yielded]), ?_⟩; intro w hSw; clear hSw; go_simp; first | done | with_reducible rfl)
      rotate_left 1
      · kernel_rfl
      simp only [Act.put, lt0', lt1', lt2']
      refine' GoL.take 4 [] ?_ ?_ ?_ ?_ ?_
      rotate_left 3
      · (simp only [lg0, lg1, lg2]; rfl)
      · exact fun _ _ _ h => h
      · (refine Or.inl ⟨by first | kernel_rfl | (simp [Region.wanted, yielded]), ?_⟩; intro w hSw; clear hSw; go_simp; first | done | with_reducible rfl)
      rotate_left 1
      · kernel_rfl
      simp only [Act.put, lt0', lt1', lt2']
      refine' GoL.take 5 [] ?_ ?_ ?_ ?_ ?_
      rotate_left 3
      · (simp only [lg0, lg1, lg2]; rfl)
      · exact fun _ _ _ h => h
      · (refine Or.inl ⟨by first | kernel_rfl | (simp [Region.wanted, yielded]), ?_⟩; intro w hSw; have f0 := Facts.get hSw 0 rfl (by decide); (try dsimp only at f0); clear hSw; go_simp; first | done | with_reducible rfl)
      rotate_left 1
      · kernel_rfl
      simp only [Act.put, lt0', lt1', lt2']
      refine' GoL.take 7 [] ?_ ?_ ?_ ?_ ?_
      rotate_left 3
      · (simp only [lg0, lg1, lg2]; rfl)
      · exact fun _ _ _ h => h
      · (refine Or.inl ⟨by first | kernel_rfl | (simp [Region.wanted, yielded]), ?_⟩; intro w hSw; have f1 := Facts.get hSw 1 rfl (by decide); (try dsimp only at f1); clear hSw; go_simp; first | done | with_reducible rfl)
      rotate_left 1
      · kernel_rfl
      simp only [Act.put, lt0', lt1', lt2']
      refine GoL.ready [6] (by kernel_rfl) (by simp) ?_
      refine GoL.one (by (simp only [lg0, lg1, lg2]; rfl)) (fun K hK => ?_) ?_
      · go_simp
        rw [EX.out]
        refine Sat.callF hS (lText g5 c5 h5 d5 ⟨M, halfG n 0, LV, FN⟩ _ (hS.cf 4 5 rfl rfl (by decide)) HOK.out) (fun wh hS => ?_)
        clear fs
        have fs := hS.says
        simp only [says, Ck.say] at fs
        refine hK.out _ _ ?_ ?_
        · exact (Facts.cons_at (.inr (by simp [fs])) (Facts.cons_at (.inr (by simp [fs])) Facts.nil_at))
        clear hK K
        try simp only [Act.put, lt0', lt1', lt2']
        refine GoL.ready [8] (by kernel_rfl) (by simp) ?_
        refine GoL.one (by (simp only [lg0, lg1, lg2]; rfl)) (fun K hK => ?_) ?_
        · go_simp
          rw [EC.out]
          refine Sat.callF hS (lText g1 c1 g2 c2 ⟨M, halfG n 0, LV, FN⟩ _ (hS.cf 7 8 rfl rfl (by decide)) HOK.out) (fun wi hS => ?_)
          clear fs
          have fs := hS.says
          simp only [says, Ck.say] at fs
          refine hK.out _ _ ?_ ?_
          · exact (Facts.cons_at (.inr (by simp [fs])) (Facts.cons_at (.inr (by simp [fs])) Facts.nil_at))
          clear hK K
          try simp only [Act.put, lt0', lt1', lt2']
          refine' GoL.take 9 [] ?_ ?_ ?_ ?_ ?_
          rotate_left 3
          · (simp only [lg0, lg1, lg2]; rfl)
          · exact fun _ _ _ h => h
          · (refine Or.inl ⟨by first | kernel_rfl | (simp [Region.wanted, yielded]), ?_⟩; intro w hSw; clear hSw; go_simp; first | done | with_reducible rfl)
          rotate_left 1
          · kernel_rfl
          simp only [Act.put, lt0', lt1', lt2']
          refine' GoL.take 10 [] ?_ ?_ ?_ ?_ ?_
          rotate_left 3
          · (simp only [lg0, lg1, lg2]; rfl)
          · exact fun _ _ _ h => h
          · (refine Or.inl ⟨by first | kernel_rfl | (simp [Region.wanted, yielded]), ?_⟩; intro w hSw; clear hSw; go_simp; first | done | with_reducible rfl)
          rotate_left 1
          · kernel_rfl
          simp only [Act.put, lt0', lt1', lt2']
          refine' GoL.take 11 [] ?_ ?_ ?_ ?_ ?_
          rotate_left 3
          · (simp only [lg0, lg1, lg2]; rfl)
          · exact fun _ _ _ h => h
          · (refine Or.inl ⟨by first | kernel_rfl | (simp [Region.wanted, yielded]), ?_⟩; intro w hSw; clear hSw; go_simp; first | done | with_reducible rfl)
          rotate_left 1
          · kernel_rfl
          simp only [Act.put, lt0', lt1', lt2']
          refine' GoL.take 12 [] ?_ ?_ ?_ ?_ ?_
          rotate_left 3
          · (simp only [lg0, lg1, lg2]; rfl)
          · exact fun _ _ _ h => h
          · (refine Or.inl ⟨by first | kernel_rfl | (simp [Region.wanted, yielded]), ?_⟩; intro w hSw; clear hSw; go_simp; first | done | with_reducible rfl)
          rotate_left 1
          · kernel_rfl
          simp only [Act.put, lt0', lt1', lt2']
          refine' GoL.take 13 [] ?_ ?_ ?_ ?_ ?_
          rotate_left 3
          · (simp only [lg0, lg1, lg2]; rfl)
          · exact fun _ _ _ h => h
          · (refine Or.inl ⟨by first | kernel_rfl | (simp [Region.wanted, yielded]), ?_⟩; intro w hSw; clear hSw; go_simp; first | done | with_reducible rfl)
          rotate_left 1
          · kernel_rfl
          simp only [Act.put, lt0', lt1', lt2']
          refine' GoL.take 14 [] ?_ ?_ ?_ ?_ ?_
          rotate_left 3
          · (simp only [lg0, lg1, lg2]; rfl)
          · exact fun _ _ _ h => h
          · (refine Or.inl ⟨by first | kernel_rfl | (simp [Region.wanted, yielded]), ?_⟩; intro w hSw; clear hSw; go_simp; first | done | with_reducible rfl)
          rotate_left 1
          · kernel_rfl
          simp only [Act.put, lt0', lt1', lt2']
          refine' GoL.take 15 [] ?_ ?_ ?_ ?_ ?_
          rotate_left 3
          · (simp only [lg0, lg1, lg2]; rfl)
          · exact fun _ _ _ h => h
          · (refine Or.inl ⟨by first | kernel_rfl | (simp [Region.wanted, yielded]), ?_⟩; intro w hSw; clear hSw; go_simp; first | done | with_reducible rfl)
          rotate_left 1
          · kernel_rfl
          simp only [Act.put, lt0', lt1', lt2']
          refine' GoL.take 16 [] ?_ ?_ ?_ ?_ ?_
          rotate_left 3
          · (simp only [lg0, lg1, lg2]; rfl)
          · exact fun _ _ _ h => h
          · (refine Or.inl ⟨by first | kernel_rfl | (simp [Region.wanted, yielded]), ?_⟩; intro w hSw; clear hSw; go_simp; first | done | with_reducible rfl)
          rotate_left 1
          · kernel_rfl
          simp only [Act.put, lt0', lt1', lt2']
          refine' GoL.take 17 [] ?_ ?_ ?_ ?_ ?_
          rotate_left 3
          · (simp only [lg0, lg1, lg2]; rfl)
          · exact fun _ _ _ h => h
          · (refine Or.inl ⟨by first | kernel_rfl | (simp [Region.wanted, yielded]), ?_⟩; intro w hSw; clear hSw; go_simp; first | done | with_reducible rfl)
          rotate_left 1
          · kernel_rfl
          simp only [Act.put, lt0', lt1', lt2']
          refine' GoL.take 18 [] ?_ ?_ ?_ ?_ ?_
          rotate_left 3
          · (simp only [lg0, lg1, lg2]; rfl)
          · exact fun _ _ _ h => h
          · (refine Or.inl ⟨by first | kernel_rfl | (simp [Region.wanted, yielded]), ?_⟩; intro w hSw; clear hSw; go_simp; first | done | with_reducible rfl)
          rotate_left 1
          · kernel_rfl
          simp only [Act.put, lt0', lt1', lt2']
          refine' GoL.take 19 [] ?_ ?_ ?_ ?_ ?_
          rotate_left 3
          · (simp only [lg0, lg1, lg2]; rfl)
          · exact fun _ _ _ h => h
          · (refine Or.inl ⟨by first | kernel_rfl | (simp [Region.wanted, yielded]), ?_⟩; intro w hSw; clear hSw; go_simp; first | done | with_reducible rfl)
          rotate_left 1
          · kernel_rfl
          simp only [Act.put, lt0', lt1', lt2']
          refine' GoL.take 20 [] ?_ ?_ ?_ ?_ ?_
          rotate_left 3
          · (simp only [lg0, lg1, lg2]; rfl)
          · exact fun _ _ _ h => h
          · (refine Or.inl ⟨by first | kernel_rfl | (simp [Region.wanted, yielded]), ?_⟩; intro w hSw; clear hSw; go_simp; first | done | with_reducible rfl)
          rotate_left 1
          · kernel_rfl
          simp only [Act.put, lt0', lt1', lt2']
          refine' GoL.take 21 [] ?_ ?_ ?_ ?_ ?_
          rotate_left 3
          · (simp only [lg0, lg1, lg2]; rfl)
          · exact fun _ _ _ h => h
          · (refine Or.inl ⟨by first | kernel_rfl | (simp [Region.wanted, yielded]), ?_⟩; intro w hSw; clear hSw; go_simp; first | done | with_reducible rfl)
          rotate_left 1
          · kernel_rfl
          simp only [Act.put, lt0', lt1', lt2']
          refine' GoL.take 22 [] ?_ ?_ ?_ ?_ ?_
          rotate_left 3
          · (simp only [lg0, lg1, lg2]; rfl)
          · exact fun _ _ _ h => h
          · (refine Or.inl ⟨by first | kernel_rfl | (simp [Region.wanted, yielded]), ?_⟩; intro w hSw; clear hSw; go_simp; first | done | with_reducible rfl)
          rotate_left 1
          · kernel_rfl
          simp only [Act.put, lt0', lt1', lt2']
          refine' GoL.take 23 [] ?_ ?_ ?_ ?_ ?_
          rotate_left 3
          · (simp only [lg0, lg1, lg2]; rfl)
          · exact fun _ _ _ h => h
          · (refine Or.inl ⟨by first | kernel_rfl | (simp [Region.wanted, yielded]), ?_⟩; intro w hSw; have f1 := Facts.get hSw 1 rfl (by decide); (try dsimp only at f1); clear hSw; go_simp; first | done | with_reducible rfl)
          rotate_left 1
          · kernel_rfl
          simp only [Act.put, lt0', lt1', lt2']
          refine' GoL.take 24 [] ?_ ?_ ?_ ?_ ?_
          rotate_left 3
          · (simp only [lg0, lg1, lg2]; rfl)
          · exact fun _ _ _ h => h
          · (refine Or.inl ⟨by first | kernel_rfl | (simp [Region.wanted, yielded]), ?_⟩; intro w hSw; clear hSw; go_simp; first | done | with_reducible rfl)
          rotate_left 1
          · kernel_rfl
          simp only [Act.put, lt0', lt1', lt2']
          refine' GoL.take 25 [] ?_ ?_ ?_ ?_ ?_
          rotate_left 3
          · (simp only [lg0, lg1, lg2]; rfl)
          · exact fun _ _ _ h => h
          · (refine Or.inl ⟨by first | kernel_rfl | (simp [Region.wanted, yielded]), ?_⟩; intro w hSw; clear hSw; go_simp; first | done | with_reducible rfl)
          rotate_left 1
          · kernel_rfl
          simp only [Act.put, lt0', lt1', lt2']
          refine' GoL.take 26 [] ?_ ?_ ?_ ?_ ?_
          rotate_left 3
          · (simp only [lg0, lg1, lg2]; rfl)
          · exact fun _ _ _ h => h
          · (refine Or.inl ⟨by first | kernel_rfl | (simp [Region.wanted, yielded]), ?_⟩; intro w hSw; clear hSw; go_simp; first | done | with_reducible rfl)
          rotate_left 1
          · kernel_rfl
          simp only [Act.put, lt0', lt1', lt2']
          refine' GoL.take 27 [] ?_ ?_ ?_ ?_ ?_
          rotate_left 3
          · (simp only [lg0, lg1, lg2]; rfl)
          · exact fun _ _ _ h => h
          · (refine Or.inl ⟨by first | kernel_rfl | (simp [Region.wanted, yielded]), ?_⟩; intro w hSw; clear hSw; go_simp; first | done | with_reducible rfl)
          rotate_left 1
          · kernel_rfl
          simp only [Act.put, lt0', lt1', lt2']
          refine' GoL.take 28 [] ?_ ?_ ?_ ?_ ?_
          rotate_left 3
          · (simp only [lg0, lg1, lg2]; rfl)
          · exact fun _ _ _ h => h
          · (refine Or.inl ⟨by first | kernel_rfl | (simp [Region.wanted, yielded]), ?_⟩; intro w hSw; clear hSw; go_simp; first | done | with_reducible rfl)
          rotate_left 1
          · kernel_rfl
          simp only [Act.put, lt0', lt1', lt2']
          refine' GoL.take 29 [] ?_ ?_ ?_ ?_ ?_
          rotate_left 3
          · (simp only [lg0, lg1, lg2]; rfl)
          · exact fun _ _ _ h => h
          · (refine Or.inl ⟨by first | kernel_rfl | (simp [Region.wanted, yielded]), ?_⟩; intro w hSw; clear hSw; go_simp; first | done | with_reducible rfl)
          rotate_left 1
          · kernel_rfl
          simp only [Act.put, lt0', lt1', lt2']
          refine GoL.done (by kernel_rfl) ?_
          go_wp2_with fail
          go_ret
          refine ⟨?_, hS.fr⟩
          show Ending.returned (Value.bool (((bs P).size : Int) == IntKind.i64.wrap (3 + IntKind.i64.wrap (2 * (n : Int))))) = _
          rw [HE.out]
        exact AllL.nil
      exact AllL.nil
end Go.Proofs.YtnnpjjehecbljaaGreatDoor

namespace Go.Proofs.YtnnpjjehecbljaaGreatDoor
open Go.RowKit

theorem lPuts (b : Int) (h : 0 ≤ b ∧ b ≤ 255) (up fin : Bool) (cut : Int) (hc : 0 ≤ cut ∧ cut ≤ 255) (more : Int) (hm : 0 ≤ more ∧ more ≤ 255) (w : World) :
    Calls Tryz.prog 5 #[.int .u8 b, .bool up, .bool fin, .int .u8 cut, .int .u8 more] w fun e w' => e = .returned (.bool true) ∧ Fr [] w w' := by
  have := lPutsN b.toNat (by omega) up fin cut.toNat (by omega) (UInt8.ofNat more.toNat) w
  have e : ((UInt8.ofNat more.toNat).toNat : Int) = more := by
    rw [UInt8.toNat_ofNat']
    have : more.toNat % 2 ^ 8 = more.toNat := Nat.mod_eq_of_lt (by omega)
    rw [this]
    omega
  rwa [show ((b.toNat : Nat) : Int) = b by omega, show ((cut.toNat : Nat) : Int) = cut by omega, e] at this
end Go.Proofs.YtnnpjjehecbljaaGreatDoor

namespace Go.Proofs.YtnnpjjehecbljaaGreatDoor
open Go.ChangeShapes Go.WideShapes Go.RowKit

/-- What the rows list. -/
def laidL : List (String × DataW Unit) := [("math/bits.deBruijn32tab", Rows.laid_math_bits_deBruijn32tab), ("math/bits.deBruijn64tab", Rows.laid_math_bits_deBruijn64tab), ("internal/strconv.uint64pow10", Rows.laid_internal_strconv_uint64pow10)]
end Go.Proofs.YtnnpjjehecbljaaGreatDoor
