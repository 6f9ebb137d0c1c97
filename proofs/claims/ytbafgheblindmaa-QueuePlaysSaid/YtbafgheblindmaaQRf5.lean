/-
  pintleref18's Queue: insert, Add: contracts.
-/
import Derived.Test.YtbafgheblindmaaQRf3
namespace Go.Proofs.Ytbafgheblindmaa
open Go.RowKit

theorem ins_place2 (x : Itm) : ∀ S : List Itm, ∃ p, p ≤ S.length ∧ ins x S = S.take p ++ x :: S.drop p ∧ (∀ j, j < p → Bef (at' S j) x) ∧ (p < S.length → ¬ Bef (at' S p) x)
  | [] => ⟨0, Nat.le_refl _, rfl, fun j hj => by omega, fun h => by simp at h⟩
  | y :: S => by
    rw [ins]
    split
    · rename_i hb
      obtain ⟨p, hp, e, h1, h2⟩ := ins_place2 x S
      refine ⟨p + 1, by simp; omega, by rw [e]; rfl, fun j hj => ?_, fun h => ?_⟩
      · cases j with
        | zero => exact hb
        | succ j => exact h1 j (by omega)
      · exact h2 (by simp at h; omega)
    · rename_i hb
      exact ⟨0, Nat.zero_le _, rfl, fun j hj => by omega, fun _ => hb⟩

theorem itNewR (w : World) (x : Itm) (j : Nat) (u : Value) (h : ([.int .u64 x.time, .int .u64 x.order, .int .i64 x.to, .string x.data] : List Value)[j]? = some u) : (w.alloc (.cells #[.int .u64 x.time, .int .u64 x.order, .int .i64 x.to, .string x.data] 50)).cell? ((⟨w.heap.size, 0, none⟩ : Addr).add j) = some u := by
  have hB := (Blk.new w #[.int .u64 x.time, .int .u64 x.order, .int .i64 x.to, .string x.data] 50).cellAt (i := j) (v := u) (by simpa using h)
  rw [← hB]
  unfold Addr.add
  split
  · rename_i e; subst e; rfl
  · simp

theorem notOwn {w : World} {base : Nat} {e : TypeId} {size : Nat} {v : Value} {n : Nat} {xs : List Value} (h : w.ownsRow base e size v n xs) {q : Nat} (hq : q < base) : q ∉ v.ownBlock.toList := fun hx => by
  have := (World.ownsRow.lt h q (by simpa using hx)).1
  omega
theorem geOwn {w : World} {base : Nat} {e : TypeId} {size : Nat} {v : Value} {n : Nat} {xs : List Value} (h : w.ownsRow base e size v n xs) {b : Nat} (hb : b ≤ base) : ∀ x, x ∈ v.ownBlock.toList → b ≤ x := fun x hx => by
  have := (World.ownsRow.lt h x (by simpa using hx)).1
  omega

set_option maxRecDepth 100000 in
set_option maxHeartbeats 8000000 in
theorem rInsert (q : Nat) (v : Value) (S : List Itm) (last : Int) (x : Itm) (w : World) (h : RB w q v S last) (h4 : S.length < 4096) :
    Calls Try.prog 37 #[.pointer (some ⟨q, 0, none⟩), .agg #[.int .u64 x.time, .int .u64 x.order, .int .i64 x.to, .string x.data]] w fun e w' => e = .returned (.tuple #[]) ∧ ∃ v', Hid (RB w' q v' (ins x S) last) ∧ Hid (Kept q v w v' w') := by
  obtain ⟨p, hp, hins, hbef, hnot⟩ := ins_place2 x S
  obtain ⟨u1, R1, S1, -⟩ := cutHi1 h.its (k := p) hp rfl
  obtain ⟨u2, R2, S2, -⟩ := cutLo1 h.its (k := p) hp rfl rfl rfl
  have HIns := Lib.hid hins
  have HR := Lib.hid h
  have hql := h.blk.lt
  have HX : Hid (Blk (w.alloc (.cells #[.int .u64 x.time, .int .u64 x.order, .int .i64 x.to, .string x.data] 50)) w.heap.size #[.int .u64 x.time, .int .u64 x.order, .int .i64 x.to, .string x.data] 50) := Blk.new _ _ _
  have HA : Hid (Fr [] w (w.alloc (.cells #[.int .u64 x.time, .int .u64 x.order, .int .i64 x.to, .string x.data] 50))) := (Fr.refl _ _).alloc _
  have HBf := Lib.hid hbef
  have HNo := Lib.hid hnot
  obtain ⟨a, c, hv⟩ := h.slice
  subst hv
  obtain ⟨n, hn⟩ : ∃ n, S.length = n := ⟨_, rfl⟩
  have Hn := Lib.hid hn
  have HCel : Hid (∀ j, j < n → ∃ g, a = some ⟨g, 0, none⟩ ∧ w.cell? ⟨g, j * 4, none⟩ = some (.int .u64 (at' S j).time) ∧ w.cell? ⟨g, j * 4 + 1, none⟩ = some (.int .u64 (at' S j).order)) := fun j hj => by
    obtain ⟨g, c', e⟩ := h.row (by omega)
    injection e with e1 e2 e3
    subst e1
    have := row4 h.its (g := g) rfl (j := j) (by omega)
    exact ⟨g, rfl, this.1, this.2.1⟩
  rw [hn] at h4 hp HR HNo R1 R2 S2
  clear h hins hbef hnot hn
  go_enter Try.func37, Try.ntmps37
  go_wp2_with fail
  generalize (w.alloc (.cells #[.int .u64 x.time, .int .u64 x.order, .int .i64 x.to, .string x.data] 50)) = w1 at *
  generalize hbx : w.heap.size = bx at *
  have HBX := Lib.hid hbx
  clear hbx
  go_loopw [4] (fun iv wr => ∃ k : Nat, k ≤ p ∧ iv = .int .i64 k ∧ Hid (Fr [] w1 wr)) (fun iv _ => p - (intOf iv).toNat)
  case atStart => exact ⟨0, by omega, rfl, Fr.refl _ _⟩
  case round =>
    obtain ⟨k, hk, rfl, HFr⟩ := hrel
    have hq : wr.cell? ⟨q, 0, none⟩ = some (.slice a n c) := ((HR.out.blk.fr0 HA.out).fr0 HFr.out).cellAt (i := 0) rfl
    have x0 : wr.cell? ⟨bx, 0, none⟩ = some (.int .u64 x.time) := (HX.out.fr0 HFr.out).cellAt (i := 0) rfl
    have x1 : wr.cell? ⟨bx, 1, none⟩ = some (.int .u64 x.order) := (HX.out.fr0 HFr.out).cellAt (i := 1) rfl
    go_upto_region 2 with fail
    go_cut [51] from 6 to 53 (fun cv wx => cv = .bool (decide (k < p)) ∧ Hid (Fr [] w1 wx))
    case first =>
      by_cases hkn : k < n
      · obtain ⟨g, rfl, c0, c1⟩ := HCel.out k hkn
        have d0 := queueNext.cell_keep (HA.out.trans0 HFr.out) c0
        have d1 := queueNext.cell_keep (HA.out.trans0 HFr.out) c1
        have hb := HBf.out k
        have hnb : k = p → ¬ Bef (at' S k) x := fun e => by subst e; exact HNo.out hkn
        clear c0 c1
        generalize at' S k = s at *
        obtain ⟨xt, xo, xd, xs⟩ := x
        obtain ⟨st, so, sd, ss⟩ := s
        unfold Bef at hb hnb
        dsimp only at *
        by_cases hkp : k < p
        · have hkp' : k < p := hkp
          rcases hb hkp with h1 | ⟨h1, h2⟩
          · have e1 : decide (st < xt) = true := by simpa using h1
            clear hb hnb
            go_quiet (fail)
            go_wp2_with fail
            go_meet
            exact ⟨by simp [hkp'], HFr.out.drewN _⟩
          · have e1 : decide (st < xt) = false := by simp; omega
            have e2 : (st == xt) = true := by simpa using h1
            have e3 : decide (so < xo) = true := by simpa using h2
            clear hb hnb h1
            go_quiet (fail)
            go_wp2_with fail
            go_meet
            exact ⟨by simp [hkp'], HFr.out.drewN _⟩
        · obtain rfl : k = p := by omega
          have hkp' : ¬ k < k := by omega
          have hn2 := hnb rfl
          by_cases h1 : st = xt
          · have e1 : decide (st < xt) = false := by simp; omega
            have e2 : (st == xt) = true := by simpa using h1
            have e3 : decide (so < xo) = false := by simp; omega
            clear hb hnb hn2 h1
            go_quiet (fail)
            go_wp2_with fail
            go_meet
            exact ⟨by simp [hkp'], HFr.out.drewN _⟩
          · have e1 : decide (st < xt) = false := by simp; omega
            have e2 : (st == xt) = false := by simpa using h1
            clear hb hnb hn2 h1
            go_quiet (fail)
            go_wp2_with fail
            go_meet
            exact ⟨by simp [hkp'], HFr.out.drewN _⟩
      · have e0 : decide (k < n) = false := by simpa using hkn
        have hkp' : ¬ k < p := by omega
        go_quiet (fail)
        go_wp2_with fail
        go_meet
        exact ⟨by simp [hkp'], HFr.out.drewN _⟩
    case rest =>
      obtain ⟨rfl, HFc⟩ := hcut
      by_cases hkp : k < p
      · have hd : decide (k < p) = true := by simpa using hkp
        go_wp2_with fail
        go_roundw
        case rel => exact ⟨k + 1, by omega, by go_num, HFc⟩
        case measure => simp [intOf]; omega
      · obtain rfl : k = p := by omega
        have hd : decide (k < k) = false := by simp
        clear hq x0 x1
        have HFW := Lib.hid (HA.out.trans0 HFc.out)
        have HXc := Lib.hid (HX.out.fr0 HFc.out)
        have hwc : w.heap.size ≤ wc.heap.size := HFW.out.size
        have hqc : wc.cell? ⟨q, 0, none⟩ = some (.slice a n c) := (HR.out.blk.fr0 HFW.out).cellAt (i := 0) rfl
        have hqw : q < wc.heap.size := by have := HBX.out; omega
        have hbw : bx < wc.heap.size := HXc.out.lt
        have HM : Hid (wc.heap.size ≤ wc.heap.size ∧ 0 + k ≤ maxLen ∧ (0 + k) * 40 ≤ 140737488355328 ∧ 0 + k + 1 ≤ maxLen ∧ (0 + k + 1) * 40 ≤ 140737488355328 ∧ 0 + k + 1 + (n - k) ≤ maxLen ∧ (0 + k + 1 + (n - k)) * 40 ≤ 140737488355328) := by
          refine ⟨Nat.le_refl _, ?_, ?_, ?_, ?_, ?_, ?_⟩ <;> first | omega | (unfold maxLen; omega)
        have HNil : Hid (wc.ownsRow wc.heap.size 50 4 (.slice none 0 0) 0 []) := World.ownsRow_nil _ _ _ _
        have HS1c := Lib.hid (S1.out.fr HFW.out (fun _ _ _ => List.not_mem_nil))
        go_wp2_with (first
          | ((with_reducible refine wpList_sliceHi 42 (.tmp 58) (.tmp 59) _ _ u1 ?_ ?_ (R1.out _) ?_); rfl; rfl)
          | ((with_reducible refine wpList_appR refT (.tmp 54) (.tmp 60) wc.heap.size (.slice none 0 0) 0 [] ?_ HNil.out u1 k _ ?_ HS1c.out (flat_ones _) HM.out.2.1 HM.out.2.2.1 HM.out.1 ?_); rfl; rfl; intro v2 w2 O2 F2; (have HX2 := Lib.hid (HXc.out.fr0 F2.out)); (have y0 : w2.cell? ⟨bx, 0, none⟩ = some (.int .u64 x.time) := HX2.out.cellAt (i := 0) rfl); (have y1 : w2.cell? ⟨bx, 1, none⟩ = some (.int .u64 x.order) := HX2.out.cellAt (i := 1) rfl); (have y2 : w2.cell? ⟨bx, 2, none⟩ = some (.int .i64 x.to) := HX2.out.cellAt (i := 2) rfl); (have y3 : w2.cell? ⟨bx, 3, none⟩ = some (.string x.data) := HX2.out.cellAt (i := 3) rfl); (have HW2 := Lib.hid ((HFW.out.trans0 F2.out).alloc (.cells #[.int .u64 x.time, .int .u64 x.order, .int .i64 x.to, .string x.data] 50))); (have hs2 := F2.out.size); (have HO2 := Lib.hid (World.ownsRow.alloc O2.out (.cells #[.int .u64 x.time, .int .u64 x.order, .int .i64 x.to, .string x.data] 50))); (have HS2 : Hid (wc.heap.size ≤ (w2.alloc (.cells #[.int .u64 x.time, .int .u64 x.order, .int .i64 x.to, .string x.data] 50)).heap.size) := by show wc.heap.size ≤ _; simp; omega))
          | ((with_reducible refine wpList_app refT (.tmp 62) (.tmp 64) wc.heap.size v2 (0 + k) _ ?_ HO2.out ⟨w2.heap.size, 0, none⟩ 1 1 [.int .u64 x.time, .int .u64 x.order, .int .i64 x.to, .string x.data] ?_ ?_ (itNewR w2 x) (itOne x) HM.out.2.2.2.1 HM.out.2.2.2.2.1 HS2.out ?_); rfl; rfl; rfl; intro v3 w3 O3 F3; (have HW3 := Lib.hid (HW2.out.trans F3.out (fun y hy => .inr (geOwn O2.out hwc y hy)))); (have HQ3 := Lib.hid ((HR.out.blk.fr0 HW2.out).fr F3.out (notOwn O2.out hqw))); (have q3 : w3.cell? ⟨q, 0, none⟩ = some (.slice a n c) := HQ3.out.cellAt (i := 0) rfl); (have hs3 : wc.heap.size ≤ w3.heap.size := by have := F3.out.size; simp at this; omega); (have HS2c := Lib.hid (S2.out.fr HW3.out (fun _ _ _ => List.not_mem_nil))))
          | ((with_reducible refine wpList_sliceLo 42 (.tmp 71) (.tmp 72) _ _ u2 ?_ ?_ (R2.out _) ?_); rfl; rfl)
          | ((with_reducible refine wpList_appR refT (.tmp 67) (.tmp 73) wc.heap.size v3 (0 + k + 1) _ ?_ O3.out u2 (n - k) _ ?_ HS2c.out (flat_ones _) HM.out.2.2.2.2.2.1 HM.out.2.2.2.2.2.2 hs3 ?_); rfl; rfl; intro v4 w4 O4 F4; obtain ⟨a4, c4, rfl⟩ := own_sl O4.out; (have HQ4 := Lib.hid (HQ3.out.fr F4.out (notOwn O3.out hqw))); (have q4 : w4.cell? ⟨q, 0, none⟩ = some (.slice a n c) := HQ4.out.cellAt (i := 0) rfl); (have z4 := HQ4.out.froz 0); (have HW4 := Lib.hid (HW3.out.trans F4.out (fun y hy => .inr (geOwn O3.out hwc y hy))))))
        go_end0
        have hl : (ins x S).length = 0 + k + 1 + (n - k) := by
          rw [queueNext.ins_len, Hn.out]
          omega
        have hP := RB.put (T := ins x S) HR.out HQ4.out HW4.out.wide0 (by rw [hl, HIns.out, flat_app, flat_cons]; simpa [Itm.cells] using O4.out) hwc
        rw [Hn.out]
        exact ⟨rfl, _, Lib.hid hP.1, Lib.hid hP.2⟩
end Go.Proofs.Ytbafgheblindmaa
