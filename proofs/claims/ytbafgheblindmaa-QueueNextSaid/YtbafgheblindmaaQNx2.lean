/-
  QueueNext: what is told as next is what is popped; nothing is lost by asking; a time that is added ahead comes ahead: the walk.
-/
import Derived.Test.YtbafgheblindmaaQNx
namespace Go.Proofs.Ytbafgheblindmaa.queueNext
open Go.ChangeShapes Go.WideShapes Go.ChangeAt Go.RowKit Go.Proofs.Ytbafgheblindmaa
open Go.ChangeMaps (open_string shut_string)

theorem wNext0 (w0 : World) (q : Nat) (v : Value) (last : Int) (w : World) (h : QW w0 w q v [] last) :
    Calls Try.prog 18 #[.pointer (some ⟨q, 0, none⟩)] w fun e w' => e = .returned (.tuple #[.agg #[.int .u64 0, .int .u64 0, .int .i64 0, .string ⟨#[]⟩], .bool false]) ∧ Hid (QW w0 w' q v [] last) ∧ Hid (Fr [] w w') := wNext w0 q v [] last w h
theorem wNextL (w0 : World) (q : Nat) (v : Value) (t o d : Int) (s : ByteArray) (T : List Itm) (last : Int) (w : World) (h : QW w0 w q v (⟨t, o, d, s⟩ :: T) last) :
    Calls Try.prog 18 #[.pointer (some ⟨q, 0, none⟩)] w fun e w' => e = .returned (.tuple #[.agg #[.int .u64 t, .int .u64 o, .int .i64 d, .string s], .bool true]) ∧ Hid (QW w0 w' q v (⟨t, o, d, s⟩ :: T) last) ∧ Hid (Fr [] w w') := wNext w0 q v (⟨t, o, d, s⟩ :: T) last w h
theorem wPopL (w0 : World) (q : Nat) (v : Value) (t o d : Int) (s : ByteArray) (T : List Itm) (last : Int) (w : World) (h : QW w0 w q v (⟨t, o, d, s⟩ :: T) last) :
    Calls Try.prog 11 #[.pointer (some ⟨q, 0, none⟩)] w fun e w' => e = .returned (.tuple #[.agg #[.int .u64 t, .int .u64 o, .int .i64 d, .string s], .bool true]) ∧ ∃ v', Hid (QW w0 w' q v' T last) ∧ Hid (Kept q v w v' w') := wPop w0 q v ⟨t, o, d, s⟩ T last w h

/-- The four cells of an item that lies in a block of its own. -/
def It4 (w : World) (b : Nat) (t o d : Int) (s : ByteArray) : Prop :=
  w.cell? ⟨b, 0, none⟩ = some (.int .u64 t) ∧ w.cell? ⟨b, 1, none⟩ = some (.int .u64 o) ∧ w.cell? ⟨b, 2, none⟩ = some (.int .i64 d) ∧ w.cell? ⟨b, 3, none⟩ = some (.string s)
theorem It4.of {w : World} {b : Nat} {t o d : Int} {s : ByteArray} {T : TypeId} (h : Blk w b #[.int .u64 t, .int .u64 o, .int .i64 d, .string s] T) : It4 w b t o d s :=
  ⟨h.cellAt (i := 0) rfl, h.cellAt (i := 1) rfl, h.cellAt (i := 2) rfl, h.cellAt (i := 3) rfl⟩

set_option maxRecDepth 100000 in
set_option maxHeartbeats 40000000 in
theorem walkRow (x : Addr) (len cap : Nat) (z : List Int) (w : World) (hlc : len ≤ cap) (hcm : cap ≤ maxLen) (hz : z.length = cap) (hcell : ∀ i, i < z.length → w.cell? (x.add i) = some (.int .u16 (z.getD i 0))) (hwf : ∀ n ∈ z, (Lit.int .u16 n).wf = true) :
    Calls Try.prog 7 #[.slice (some x) len cap] w fun e w' => e = .returned (.bool true) ∧ Fr [] w w' := by
  have HC : Hid (∀ i, i < len → w.cell? (x.add i) = some (.int .u16 (z.getD i 0)) ∧ 0 ≤ z.getD i 0 ∧ z.getD i 0 ≤ 65535) := by
    intro i hi
    refine ⟨hcell i (by omega), bounds_u16 (hwf _ ?_)⟩
    rw [List.getD_eq_getElem?_getD, List.getElem?_eq_getElem (by omega)]
    exact List.getElem_mem _
  unfold maxLen at hcm
  clear hcell hwf hz
  have hneq := fun t o d s w => neqItm t o d s w
  have hgd := guardItm
  go_enter Try.func7, Try.ntmps7
  go_wp2_with fail
  refine (fExamples w).mono ?_
  rintro e w1 ⟨rfl, f1⟩
  go_wp2_with fail
  refine (wNew w1).mono ?_
  rintro e w2 ⟨q, rfl, H2⟩
  have HF1 := Lib.hid f1
  clear f1
  go_wp2_with fail
  go_loopw [5, 6, 7, 8, 9, 10, 11, 12, 13, 14] (fun mv iv _ _ _ _ _ _ _ _ wr => ∃ (k m : Nat) (v : Value) (S : List Itm) (last : Int), k ≤ len ∧ k ≤ 60 ∧ mv = .int .i64 m ∧ iv = .int .i64 k ∧ Hid (R w1 wr q v S last m k)) (fun _ iv _ _ _ _ _ _ _ _ _ => 60 - (intOf iv).toNat)
  case atStart => exact ⟨0, 0, _, [], 0, by omega, by omega, rfl, rfl, ⟨H2.out, rfl, by omega, by omega⟩⟩
  case round =>
    obtain ⟨k, m, v, S, last, hk, hk60, rfl, rfl, HR⟩ := hrel
    by_cases hlt : k < len ∧ k < 60
    · obtain ⟨h1, h2⟩ := hlt
      obtain ⟨hc0, hb0, hb1⟩ := HC.out k h1
      have hcc := cell_keep (HF1.out.trans0 HR.out.qw.fr) hc0
      have HC0 := Lib.hid hc0
      generalize z.getD k 0 = t at *
      clear hc0
      have hmk := HR.out.le
      by_cases h3 : t % 3 = 0
      · have h3' : (t % 3 == 0) = true := by simpa using h3
        have h3'' : t.tmod 3 = 0 := by rw [Int.tmod_eq_emod_of_nonneg hb0]; exact h3
        have H33 := Lib.hid h3
        clear h3
        cases S with
        | nil =>
          obtain rfl : m = 0 := by have := HR.out.len; simpa using this.symm
          have hmx : mxI (-1) 0 = 0 := rfl
          go_wp2_with fail
          refine (wNext0 w1 q v last _ HR.out.qw).mono ?_
          rintro e w3 ⟨rfl, H3, F3⟩
          go_wp2_with fail
          refine (wPop0 w1 q v last _ (H3.out.fr0 ((Fr.refl _ _).alloc _))).mono ?_
          rintro e w4 ⟨rfl, H4, F4⟩
          have BX := (Blk.new w3 #[.int .u64 0, .int .u64 0, .int .i64 0, .string ⟨#[]⟩] 31).fr0 F4.out
          have y0 : ∀ o, (w4.alloc o).cell? ⟨w3.heap.size, 0, none⟩ = some (.int .u64 0) := fun o => (BX.alloc o).cellAt (i := 0) rfl
          have y1 : ∀ o, (w4.alloc o).cell? ⟨w3.heap.size, 1, none⟩ = some (.int .u64 0) := fun o => (BX.alloc o).cellAt (i := 1) rfl
          have y2 : ∀ o, (w4.alloc o).cell? ⟨w3.heap.size, 2, none⟩ = some (.int .i64 0) := fun o => (BX.alloc o).cellAt (i := 2) rfl
          have y3 : ∀ o, (w4.alloc o).cell? ⟨w3.heap.size, 3, none⟩ = some (.string ⟨#[]⟩) := fun o => (BX.alloc o).cellAt (i := 3) rfl
          clear BX
          go_wp2_with fail
          go_roundw
          case rel => exact ⟨k + 1, 0, v, [], last, by omega, by omega, by first | rfl | go_num, by go_num, ⟨H4.out.fr0 ((Fr.refl _ _).alloc _), rfl, by omega, by have := HR.out.last_le; omega⟩⟩
          case measure => simp [intOf]; omega
        | cons s T =>
          obtain ⟨ht, ho, hd, hs⟩ := s
          obtain ⟨m', rfl⟩ : ∃ m', m = m' + 1 := ⟨T.length, by have := HR.out.len; simpa using this.symm⟩
          have HT : Hid (T.length = m') := by have := HR.out.len; show T.length = m'; simpa using this
          have hmx : mxI (m' : Int) 0 = m' := by unfold mxI; rw [if_neg (by omega)]
          have hm0 : decide ((0 : Int) < (m' : Int) + 1) = true := by first | (simp; done) | (simp; omega)
          go_wp2_with fail
          refine (wNextL w1 q v ht ho hd hs T last _ HR.out.qw).mono ?_
          rintro e w3 ⟨rfl, H3, F3⟩
          go_wp2_with fail
          have AX := Lib.hid (H3.out.qs.away (w' := w3.alloc (.cells #[.int .u64 ht, .int .u64 ho, .int .i64 hd, .string hs] 31)) (Nat.le_refl _) (by simp))
          refine (wPopL w1 q v ht ho hd hs T last _ (H3.out.fr0 ((Fr.refl _ _).alloc _))).mono ?_
          rintro e w4 ⟨rfl, v4, H4, K4⟩
          have BX := AX.out.blk (Blk.new w3 #[.int .u64 ht, .int .u64 ho, .int .i64 hd, .string hs] 31) K4.out
          have y0 : ∀ o, (w4.alloc o).cell? ⟨w3.heap.size, 0, none⟩ = some (.int .u64 ht) := fun o => (BX.alloc o).cellAt (i := 0) rfl
          have y1 : ∀ o, (w4.alloc o).cell? ⟨w3.heap.size, 1, none⟩ = some (.int .u64 ho) := fun o => (BX.alloc o).cellAt (i := 1) rfl
          have y2 : ∀ o, (w4.alloc o).cell? ⟨w3.heap.size, 2, none⟩ = some (.int .i64 hd) := fun o => (BX.alloc o).cellAt (i := 2) rfl
          have y3 : ∀ o, (w4.alloc o).cell? ⟨w3.heap.size, 3, none⟩ = some (.string hs) := fun o => (BX.alloc o).cellAt (i := 3) rfl
          clear BX
          go_wp2_with fail
          go_roundw
          case rel => exact ⟨k + 1, m', v4, T, last, by omega, by omega, by first | rfl | go_num, by go_num, ⟨H4.out.fr0 ((Fr.refl _ _).alloc _), HT.out, by omega, by have := HR.out.last_le; omega⟩⟩
          case measure => simp [intOf]; omega
      · have h3' : (t % 3 == 0) = false := by simpa using h3
        clear h3
        have hll := HR.out.last_le
        have hl0 := QW.lastPos HR.out.qw
        have hSl : S.length < 4096 := by rw [HR.out.len]; omega
        go_wp2_with fail
        refine (wAdd w1 q v S _ last (last + 1) t 1 ⟨#[]⟩ _ HR.out.qw hSl (by omega) rfl rfl).mono ?_
        rintro e w3 ⟨rfl, v3, H3, K3⟩
        obtain ⟨⟨ht, ho, hd, hs⟩, T, hS, hst⟩ := ins_head ⟨t, last + 1, 1, ⟨#[]⟩⟩ S
        rw [hS] at H3
        dsimp only at hst
        have HT : Hid (T.length = m) := by
          have h1 := ins_len ⟨t, last + 1, 1, ⟨#[]⟩⟩ S
          rw [hS, HR.out.len] at h1
          show T.length = m
          simpa using h1
        clear hS
        have hob := (QW.bound H3.out (x := ⟨ht, ho, hd, hs⟩) (by simp)).2
        dsimp only at hob
        go_wp2_with fail
        refine (wNextL w1 q v3 ht ho hd hs T (last + 1) _ H3.out).mono ?_
        rintro e w4 ⟨rfl, H4, F4⟩
        go_wp2_with fail
        have BX := Lib.hid (Blk.new w4 #[.int .u64 ht, .int .u64 ho, .int .i64 hd, .string hs] 31)
        have FX : Hid (Fr [] w4 (w4.alloc (.cells #[.int .u64 ht, .int .u64 ho, .int .i64 hd, .string hs] 31))) := (Fr.refl _ _).alloc _
        have hcc2 := cell_keep ((HF1.out.trans0 H4.out.fr).trans0 FX.out) HC0.out
        have HK : Hid (∀ wx, Fr [] (w4.alloc (.cells #[.int .u64 ht, .int .u64 ho, .int .i64 hd, .string hs] 31)) wx → It4 wx w4.heap.size ht ho hd hs) := fun wx f => It4.of (BX.out.fr0 f)
        have HQ : Hid (∀ wx, Fr [] (w4.alloc (.cells #[.int .u64 ht, .int .u64 ho, .int .i64 hd, .string hs] 31)) wx → QW w1 wx q v3 (⟨ht, ho, hd, hs⟩ :: T) (last + 1)) := fun wx f => H4.out.fr0 (FX.out.trans0 f)
        generalize (w4.alloc (.cells #[.int .u64 ht, .int .u64 ho, .int .i64 hd, .string hs] 31)) = w5 at *
        generalize w4.heap.size = bx at *
        have HA : Hid (∀ wx, Fr [] w5 wx → Calls Try.prog 15 #[.pointer (some ⟨q, 0, none⟩)] wx fun e w' => ∃ g c, e = .returned (.slice (some ⟨g, 0, none⟩) (m + 1) c) ∧ (w'.cell? ⟨g, 0, none⟩ = some (.int .u64 ht) ∧ w'.cell? ⟨g, 1, none⟩ = some (.int .u64 ho) ∧ w'.cell? ⟨g, 2, none⟩ = some (.int .i64 hd) ∧ w'.cell? ⟨g, 3, none⟩ = some (.string hs)) ∧ Fr [] w5 w') := fun wx f =>
          (wAll1 w1 q v3 ⟨ht, ho, hd, hs⟩ T (last + 1) (m + 1) wx (HQ.out wx f) (by rw [HT.out])).mono fun e w' ⟨g, c, he, hc, _, hf⟩ => ⟨g, c, he, hc, f.trans0 hf⟩
        have HL : Hid (∀ wx, Fr [] w5 wx → Calls Try.prog 12 #[.pointer (some ⟨q, 0, none⟩)] wx fun e w' => e = .returned (.int .i64 ((m : Int) + 1)) ∧ wx = w') := fun wx f =>
          (wLen w1 q v3 (⟨ht, ho, hd, hs⟩ :: T) (m + 1) (last + 1) wx (HQ.out wx f) (by simp [HT.out])).mono fun e w' ⟨he, hw⟩ => ⟨by rw [he]; simp, hw⟩
        obtain ⟨y0, y1, y2, y3⟩ := HK.out w5 (Fr.refl _ _)
        have d1 : decide (t < ht) = false := by first | (simp; done) | (simp; omega)
        have d2 : decide (last + 1 < ho) = false := by first | (simp; done) | (simp; omega)
        have h0m : 0 < m + 1 := by omega
        clear hst hob
        go_quiet (fail)
        go_wp2_with fail
        have FQ : Hid (∀ n, Fr [] w5 (w5.drewN n)) := fun n => (Fr.refl _ _).drewN n
        go_region_with (first | (go_at_call 12; refine (HL.out _ (by first | exact fq.out | exact (FQ.out _).drew)).mono ?_; rintro r w' ⟨rfl, rfl⟩) | (go_at_call 15; refine (HA.out _ (by first | exact fq.out | exact (FQ.out _).drew)).mono ?_; rintro r w6 ⟨g, c, rfl, ⟨c0, c1, c2, c3⟩, fq'⟩; have fq := Lib.hid fq'; obtain ⟨e0, e1, e2, e3⟩ := HK.out _ fq'; clear fq'))
        all_goals go_wp2_with fail
        all_goals go_roundw
        all_goals first
          | exact ⟨k + 1, m + 1, v3, _, last + 1, by omega, by omega, by go_num, by go_num, ⟨HQ.out _ fq.out, by simp [HT.out], by omega, by omega⟩⟩
          | (simp [intOf]; omega)
    · by_cases h1 : k < len
      · have h2 : ¬ k < 60 := fun h => hlt ⟨h1, h⟩
        go_wp2_with fail
        go_ret
        exact ⟨rfl, HF1.out.trans0 HR.out.qw.fr⟩
      · go_wp2_with fail
        go_ret
        exact ⟨rfl, HF1.out.trans0 HR.out.qw.fr⟩
end Go.Proofs.Ytbafgheblindmaa.queueNext
