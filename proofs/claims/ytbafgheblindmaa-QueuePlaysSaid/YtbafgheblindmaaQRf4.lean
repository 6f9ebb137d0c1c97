/-
  pintleref18's Queue: Pop: the contract.
-/
import Derived.Test.YtbafgheblindmaaQRf3
namespace Go.Proofs.Ytbafgheblindmaa
open Go.RowKit

theorem Blk.nq {w w' : World} {b : Nat} {cs : Array Value} {t : TypeId} {T : List Nat} (h : Blk w b cs t) (hf : Fr T w w') (hn : b ∉ T) : Blk w' b cs t := h.fr hf hn

set_option maxHeartbeats 2000000 in
theorem rPop0 (q : Nat) (v : Value) (last : Int) (w : World) (h : RB w q v [] last) :
    Calls Try.prog 23 #[.pointer (some ⟨q, 0, none⟩)] w fun e w' => e = .returned (.tuple #[.agg #[.int .u64 0, .int .u64 0, .int .i64 0, .string ⟨#[]⟩], .bool false]) ∧ Hid (Fr [] w w') := by
  have HN := Lib.hid (rNext0 q v last (w.alloc (.cells #[.int .u64 0, .int .u64 0, .int .i64 0, .string ⟨#[]⟩] 50)) (h.fr0 ((Fr.refl _ _).alloc _)))
  have HZ : Hid (Blk (w.alloc (.cells #[.int .u64 0, .int .u64 0, .int .i64 0, .string ⟨#[]⟩] 50)) w.heap.size #[.int .u64 0, .int .u64 0, .int .i64 0, .string ⟨#[]⟩] 50) := Blk.new _ _ _
  have HA : Hid (Fr [] w (w.alloc (.cells #[.int .u64 0, .int .u64 0, .int .i64 0, .string ⟨#[]⟩] 50))) := (Fr.refl _ _).alloc _
  clear h
  go_enter Try.func23, Try.ntmps23
  go_wp2_with fail
  refine HN.out.mono ?_
  rintro e w3 ⟨rfl, F3⟩
  have BZ := HZ.out.fr0 F3.out
  have y0 : ∀ o, (w3.alloc o).cell? ⟨w.heap.size, 0, none⟩ = some (.int .u64 0) := fun o => (BZ.alloc o).cellAt (i := 0) rfl
  have y1 : ∀ o, (w3.alloc o).cell? ⟨w.heap.size, 1, none⟩ = some (.int .u64 0) := fun o => (BZ.alloc o).cellAt (i := 1) rfl
  have y2 : ∀ o, (w3.alloc o).cell? ⟨w.heap.size, 2, none⟩ = some (.int .i64 0) := fun o => (BZ.alloc o).cellAt (i := 2) rfl
  have y3 : ∀ o, (w3.alloc o).cell? ⟨w.heap.size, 3, none⟩ = some (.string ⟨#[]⟩) := fun o => (BZ.alloc o).cellAt (i := 3) rfl
  have z0 := fun o => (BZ.alloc o).froz 0
  have z1 := fun o => (BZ.alloc o).froz 1
  have z2 := fun o => (BZ.alloc o).froz 2
  have z3 := fun o => (BZ.alloc o).froz 3
  have HB := Lib.hid BZ
  clear BZ
  go_wp2_with fail
  have BF : Blk (((((w3.alloc (.cells #[.int .u64 0, .int .u64 0, .int .i64 0, .string ⟨#[]⟩] 50)).setCell ⟨w.heap.size, 0, none⟩ (.int .u64 0)).setCell ⟨w.heap.size, 1, none⟩ (.int .u64 0)).setCell ⟨w.heap.size, 2, none⟩ (.int .i64 0)).setCell ⟨w.heap.size, 3, none⟩ (.string ⟨#[]⟩)) w.heap.size #[.int .u64 0, .int .u64 0, .int .i64 0, .string ⟨#[]⟩] 50 := ((((HB.out.alloc _).set 0 _).set 1 _).set 2 _).set 3 _
  have FF : Hid (Fr [] w (((((w3.alloc (.cells #[.int .u64 0, .int .u64 0, .int .i64 0, .string ⟨#[]⟩] 50)).setCell ⟨w.heap.size, 0, none⟩ (.int .u64 0)).setCell ⟨w.heap.size, 1, none⟩ (.int .u64 0)).setCell ⟨w.heap.size, 2, none⟩ (.int .i64 0)).setCell ⟨w.heap.size, 3, none⟩ (.string ⟨#[]⟩))) := (((((HA.out.trans0 F3.out).alloc _).setCell (.inr (Nat.le_refl _)) _).setCell (.inr (Nat.le_refl _)) _).setCell (.inr (Nat.le_refl _)) _).setCell (.inr (Nat.le_refl _)) _
  clear y0 y1 y2 y3 z0 z1 z2 z3
  generalize (((((w3.alloc (.cells #[.int .u64 0, .int .u64 0, .int .i64 0, .string ⟨#[]⟩] 50)).setCell ⟨w.heap.size, 0, none⟩ (.int .u64 0)).setCell ⟨w.heap.size, 1, none⟩ (.int .u64 0)).setCell ⟨w.heap.size, 2, none⟩ (.int .i64 0)).setCell ⟨w.heap.size, 3, none⟩ (.string ⟨#[]⟩)) = W at *
  have y0 : W.cell? ⟨w.heap.size, 0, none⟩ = some (.int .u64 0) := BF.cellAt (i := 0) rfl
  have y1 : W.cell? ⟨w.heap.size, 1, none⟩ = some (.int .u64 0) := BF.cellAt (i := 1) rfl
  have y2 : W.cell? ⟨w.heap.size, 2, none⟩ = some (.int .i64 0) := BF.cellAt (i := 2) rfl
  have y3 : W.cell? ⟨w.heap.size, 3, none⟩ = some (.string ⟨#[]⟩) := BF.cellAt (i := 3) rfl
  refine bodyPost_ret (v := .tuple #[.agg #[.int .u64 0, .int .u64 0, .int .i64 0, .string ⟨#[]⟩], .bool false]) (by simp [results, Try.results23, go_sem, y0, y1, y2, y3]) rfl ⟨rfl, FF⟩

set_option maxRecDepth 100000 in
set_option maxHeartbeats 4000000 in
theorem rPop (q : Nat) (v : Value) (t o d : Int) (x : ByteArray) (T : List Itm) (last : Int) (w : World) (h : RB w q v (⟨t, o, d, x⟩ :: T) last) (h4 : T.length < 4096) :
    Calls Try.prog 23 #[.pointer (some ⟨q, 0, none⟩)] w fun e w' => e = .returned (.tuple #[.agg #[.int .u64 t, .int .u64 o, .int .i64 d, .string x], .bool true]) ∧ ∃ v', Hid (RB w' q v' T last) ∧ Hid (Kept q v w v' w') := by
  have HA : Hid (Fr [] w (w.alloc (.cells #[.int .u64 0, .int .u64 0, .int .i64 0, .string ⟨#[]⟩] 50))) := (Fr.refl _ _).alloc _
  have HN := Lib.hid (rNext q v t o d x T last (w.alloc (.cells #[.int .u64 0, .int .u64 0, .int .i64 0, .string ⟨#[]⟩] 50)) (h.fr0 HA.out))
  have HZ : Hid (Blk (w.alloc (.cells #[.int .u64 0, .int .u64 0, .int .i64 0, .string ⟨#[]⟩] 50)) w.heap.size #[.int .u64 0, .int .u64 0, .int .i64 0, .string ⟨#[]⟩] 50) := Blk.new _ _ _
  have HR := Lib.hid h
  have hql := h.blk.lt
  obtain ⟨n, hn⟩ : ∃ n, T.length = n := ⟨_, rfl⟩
  obtain ⟨u2, R2, S2, B2⟩ := cutLo1 h.its (k := 1) (x := 1) (by simp) rfl (m := n) (by simp [hn]) (T := T) rfl
  have Hn := Lib.hid hn
  rw [hn] at h4
  clear h hn
  go_enter Try.func23, Try.ntmps23
  go_wp2_with fail
  refine HN.out.mono ?_
  rintro e w3 ⟨rfl, F3⟩
  have HF3 : Hid (Fr [] w (w3.alloc (.cells #[.int .u64 t, .int .u64 o, .int .i64 d, .string x] 50))) := (HA.out.trans0 F3.out).alloc _
  have q3 : ∀ o, (w3.alloc o).cell? ⟨q, 0, none⟩ = some v := fun o => (((HR.out.blk.fr0 HA.out).fr0 F3.out).alloc o).cellAt (i := 0) rfl
  have HB4 : Hid (Blk (w3.alloc (.cells #[.int .u64 t, .int .u64 o, .int .i64 d, .string x] 50)) w3.heap.size #[.int .u64 t, .int .u64 o, .int .i64 d, .string x] 50) := Blk.new _ _ _
  have HB2 : Hid (Blk (w3.alloc (.cells #[.int .u64 t, .int .u64 o, .int .i64 d, .string x] 50)) w.heap.size #[.int .u64 0, .int .u64 0, .int .i64 0, .string ⟨#[]⟩] 50) := (HZ.out.fr0 F3.out).alloc _
  have hs3 : w.heap.size < w3.heap.size := by have := F3.out.size; simp at this; omega
  have HM : Hid (w3.heap.size + 1 ≤ (w3.alloc (.cells #[.int .u64 t, .int .u64 o, .int .i64 d, .string x] 50)).heap.size ∧ 0 + n ≤ maxLen ∧ (0 + n) * 40 ≤ 140737488355328) := by
    refine ⟨by simp, ?_, ?_⟩ <;> first | omega | (unfold maxLen; omega)
  have HNil : Hid ((w3.alloc (.cells #[.int .u64 t, .int .u64 o, .int .i64 d, .string x] 50)).ownsRow (w3.heap.size + 1) 50 4 (.slice none 0 0) 0 []) := World.ownsRow_nil _ _ _ _
  have HS2 := Lib.hid (S2.out.fr HF3.out (fun _ _ _ => List.not_mem_nil))
  go_upto_region 4 with (first
    | ((with_reducible refine wpList_sliceLo 42 (.tmp 16) (.const (.int .i64 1)) _ _ u2 ?_ ?_ (R2.out _) ?_); rfl; rfl)
    | ((with_reducible refine wpList_appR refT (.const (.slice none 0 0)) (.tmp 17) (w3.heap.size + 1) (.slice none 0 0) 0 [] ?_ HNil.out u2 n _ ?_ HS2.out (flat_ones _) HM.out.2.1 HM.out.2.2 HM.out.1 ?_); rfl; rfl; intro v4 w4 O4z F4; (have O4 : Hid (w4.ownsRow (w3.heap.size + 1) 50 4 v4 n (flat T)) := Lib.hid (by simpa using O4z.out)); clear O4z; obtain ⟨a4, c4, rfl⟩ := own_sl O4.out; (have HQ4 := Lib.hid ((HR.out.blk.fr0 HF3.out).fr0 F4.out)); (have q4 : w4.cell? ⟨q, 0, none⟩ = some v := HQ4.out.cellAt (i := 0) rfl); (have z4 := HQ4.out.froz 0)))
  have hP := RB.put (T := T) HR.out HQ4.out ((HF3.out.trans0 F4.out).wide0) (by rw [Hn.out]; exact O4.out) (by omega)
  have HP1 := Lib.hid hP.1
  have HP2 := Lib.hid hP.2
  have BX : Hid (Blk (w4.setCell ⟨q, 0, none⟩ (.slice a4 n c4)) w3.heap.size #[.int .u64 t, .int .u64 o, .int .i64 d, .string x] 50) := (HB4.out.fr0 F4.out).far (by show w3.heap.size ≠ q; omega) _
  have BY : Hid (Blk (w4.setCell ⟨q, 0, none⟩ (.slice a4 n c4)) w.heap.size #[.int .u64 0, .int .u64 0, .int .i64 0, .string ⟨#[]⟩] 50) := (HB2.out.fr0 F4.out).far (by show w.heap.size ≠ q; omega) _
  have HOw : Hid (∀ y, y ∈ (Value.slice a4 n c4).ownBlock.toList → w.heap.size < y) := fun y hy => by
    have h1 := (World.ownsRow.lt O4.out y (by simpa using hy)).1
    omega
  have hbq : w.heap.size ≠ q := by omega
  clear hP q3 q4 z4 O4 F4 HQ4
  generalize (w4.setCell ⟨q, 0, none⟩ (.slice a4 n c4)) = W5 at *
  generalize w3.heap.size = b4 at *
  have y0 : W5.cell? ⟨b4, 0, none⟩ = some (.int .u64 t) := BX.out.cellAt (i := 0) rfl
  have x0 : W5.cell? ⟨w.heap.size, 0, none⟩ = some (.int .u64 0) := BY.out.cellAt (i := 0) rfl
  have z0 := BY.out.froz 0
  have y1 : W5.cell? ⟨b4, 1, none⟩ = some (.int .u64 o) := BX.out.cellAt (i := 1) rfl
  have x1 : W5.cell? ⟨w.heap.size, 1, none⟩ = some (.int .u64 0) := BY.out.cellAt (i := 1) rfl
  have z1 := BY.out.froz 1
  have y2 : W5.cell? ⟨b4, 2, none⟩ = some (.int .i64 d) := BX.out.cellAt (i := 2) rfl
  have x2 : W5.cell? ⟨w.heap.size, 2, none⟩ = some (.int .i64 0) := BY.out.cellAt (i := 2) rfl
  have z2 := BY.out.froz 2
  have y3 : W5.cell? ⟨b4, 3, none⟩ = some (.string x) := BX.out.cellAt (i := 3) rfl
  have x3 : W5.cell? ⟨w.heap.size, 3, none⟩ = some (.string ⟨#[]⟩) := BY.out.cellAt (i := 3) rfl
  have z3 := BY.out.froz 3
  go_wp2_with fail
  have BF : Blk ((((W5.setCell ⟨w.heap.size, 0, none⟩ (.int .u64 t)).setCell ⟨w.heap.size, 1, none⟩ (.int .u64 o)).setCell ⟨w.heap.size, 2, none⟩ (.int .i64 d)).setCell ⟨w.heap.size, 3, none⟩ (.string x)) w.heap.size #[.int .u64 t, .int .u64 o, .int .i64 d, .string x] 50 := (((BY.out.set 0 _).set 1 _).set 2 _).set 3 _
  have FF : Hid (Fr [w.heap.size] W5 ((((W5.setCell ⟨w.heap.size, 0, none⟩ (.int .u64 t)).setCell ⟨w.heap.size, 1, none⟩ (.int .u64 o)).setCell ⟨w.heap.size, 2, none⟩ (.int .i64 d)).setCell ⟨w.heap.size, 3, none⟩ (.string x))) := (((((Fr.refl [w.heap.size] W5).setCell (.inl (by simp)) _).setCell (.inl (by simp)) _).setCell (.inl (by simp)) _).setCell (.inl (by simp)) _)
  clear y0 x0 z0 y1 x1 z1 y2 x2 z2 y3 x3 z3
  generalize ((((W5.setCell ⟨w.heap.size, 0, none⟩ (.int .u64 t)).setCell ⟨w.heap.size, 1, none⟩ (.int .u64 o)).setCell ⟨w.heap.size, 2, none⟩ (.int .i64 d)).setCell ⟨w.heap.size, 3, none⟩ (.string x)) = W at *
  have y0 : W.cell? ⟨w.heap.size, 0, none⟩ = some (.int .u64 t) := BF.cellAt (i := 0) rfl
  have y1 : W.cell? ⟨w.heap.size, 1, none⟩ = some (.int .u64 o) := BF.cellAt (i := 1) rfl
  have y2 : W.cell? ⟨w.heap.size, 2, none⟩ = some (.int .i64 d) := BF.cellAt (i := 2) rfl
  have y3 : W.cell? ⟨w.heap.size, 3, none⟩ = some (.string x) := BF.cellAt (i := 3) rfl
  refine bodyPost_ret (v := .tuple #[.agg #[.int .u64 t, .int .u64 o, .int .i64 d, .string x], .bool true]) ?_ rfl ?_
  · simp [results, Try.results23, go_sem, y0, y1, y2, y3]
  refine ⟨rfl, .slice a4 n c4, ?_, ?_⟩
  · exact Lib.hid (HP1.out.fr FF.out (by simp; omega) (fun y hy e => by simp at e; subst e; have := HOw.out _ hy; omega))
  · exact Lib.hid ⟨HP2.out.1.trans FF.out (fun y hy => by simp at hy; subst hy; exact .inr (Nat.le_refl _)), fun y hy => .inr (Nat.le_of_lt (HOw.out y hy))⟩
end Go.Proofs.Ytbafgheblindmaa
