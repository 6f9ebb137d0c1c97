/-
  pintleref18's Queue: Pop, Drop: contracts.
-/
import Derived.Test.YtbafgheblindmaaQRf2
namespace Go.Proofs.Ytbafgheblindmaa
open Go.RowKit

theorem flat_ones (L : List Itm) (u : Value) (h : u ∈ flat L) : u.oneCell' = true := by
  obtain ⟨x, _, hu⟩ := List.mem_flatMap.1 h
  exact itOne x u hu

theorem cutLo1 {w : World} {base : Nat} {v : Value} {L : List Itm} (h : w.ownsRow base 50 4 v L.length (flat L)) {k : Nat} (hk : k ≤ L.length) {x : Int} (hx : (k : Int) = x) {m : Nat} (hm : L.length - k = m) {T : List Itm} (hT : L.drop k = T) :
    ∃ v2, Hid (∀ w', (Instr.sliceAt 42 v (some (.int .i64 x)) none none).run Try.prog w' = .ok v2 w') ∧ Hid (Src w v2 m (flat T)) ∧ Hid (∀ ad c, v2 = .slice (some ad) m c → some ad.block = v.ownBlock) := by
  subst hx; subst hm; subst hT
  exact cutLo h hk
theorem cutHi1 {w : World} {base : Nat} {v : Value} {L : List Itm} (h : w.ownsRow base 50 4 v L.length (flat L)) {k : Nat} (hk : k ≤ L.length) {T : List Itm} (hT : L.take k = T) :
    ∃ v2, Hid (∀ w', (Instr.sliceAt 42 v none (some (.int .i64 (k : Int))) none).run Try.prog w' = .ok v2 w') ∧ Hid (Src w v2 k (flat T)) ∧ Hid (∀ ad c, v2 = .slice (some ad) k c → some ad.block = v.ownBlock) := by
  subst hT
  exact cutHi h hk

/-- The queue behind its list was set. -/
theorem RB.put {w w4 : World} {q : Nat} {v v4 : Value} {S T : List Itm} {last last4 : Int} {B : Nat} (h : RB w q v S last) (hB : Blk w4 q #[v, .int .u64 last4] 44) (hf : Fr [q] w w4) (ho : w4.ownsRow B 50 4 v4 T.length (flat T)) (hb : w.heap.size ≤ B) :
    RB (w4.setCell ⟨q, 0, none⟩ v4) q v4 T last4 ∧ Kept q v w v4 (w4.setCell ⟨q, 0, none⟩ v4) := by
  have hlt := h.blk.lt
  have hge : ∀ x, x ∈ v4.ownBlock.toList → w.heap.size ≤ x := fun x hx => Nat.le_trans hb (World.ownsRow.lt ho x (by simpa using hx)).1
  refine ⟨⟨?_, ?_, fun hx => by have := hge q hx; omega⟩, ⟨?_, fun x hx => .inr (hge x hx)⟩⟩
  · have := hB.set 0 v4
    simpa using this
  · exact ownsRow_base (ownsRow_fr ho ((Fr.refl [q] w4).setCell (p := ⟨q, 0, none⟩) (.inl (by simp)) v4) (fun x hx e => by simp at e; subst e; have := hge _ hx; omega)) (Nat.zero_le _)
  · exact (hf.wide (fun x hx => by simp at hx; subst hx; simp)).setCell (p := ⟨q, 0, none⟩) (.inl (by simp)) v4

set_option maxRecDepth 100000 in
set_option maxHeartbeats 2000000 in
theorem rDrop (q : Nat) (v : Value) (S : List Itm) (last o : Int) (w : World) (h : RB w q v S last) (h4 : S.length ≤ 4096) :
    Calls Try.prog 24 #[.pointer (some ⟨q, 0, none⟩), .int .u64 o] w fun e w' =>
      (e = .returned (.bool false) ∧ (∀ j, j < S.length → (at' S j).order ≠ o) ∧ w = w') ∨ ∃ i, i < S.length ∧ (at' S i).order = o ∧ e = .returned (.bool true) ∧ ∃ v', Hid (RB w' q v' (S.take i ++ S.drop (i + 1)) last) ∧ Hid (Kept q v w v' w') := by
  have HF := Lib.hid (rFind q v S last o w h h4)
  have HR := Lib.hid h
  have hq := h.blk.cellAt (i := 0) rfl
  clear h
  go_enter Try.func24, Try.ntmps24
  go_wp2_with fail
  refine HF.out.mono ?_
  rintro e w1 ⟨r, rfl, HA, rfl⟩
  rcases HA.out with ⟨rfl, hno⟩ | ⟨i, rfl, hi, ho⟩
  · have HN := Lib.hid hno
    clear HA hno
    have hd : decide ((-1 : Int) < 0) = true := rfl
    go_wp2_with fail
    go_ret
    exact .inl ⟨rfl, HN.out, rfl⟩
  · have hd : decide ((i : Int) < 0) = false := by simp
    obtain ⟨u1, R1, S1, -⟩ := cutHi1 HR.out.its (k := i) (by omega) rfl
    obtain ⟨u2, R2, S2, B2⟩ := cutLo1 HR.out.its (k := i + 1) (x := (i : Int) + 1) (by omega) (by simp) rfl rfl
    have HO := Lib.hid ho
    have HI := Lib.hid hi
    have HM : Hid (w.heap.size ≤ w.heap.size ∧ 0 + i ≤ maxLen ∧ (0 + i) * 40 ≤ 140737488355328 ∧ 0 + i + (S.length - (i + 1)) ≤ maxLen ∧ (0 + i + (S.length - (i + 1))) * 40 ≤ 140737488355328) := by
      refine ⟨Nat.le_refl _, ?_, ?_, ?_, ?_⟩ <;> first | omega | (unfold maxLen; omega)
    have hi4 : i < 4096 := by omega
    clear HA ho hi h4
    have HNil : Hid (w.ownsRow w.heap.size 50 4 (.slice none 0 0) 0 []) := World.ownsRow_nil _ _ _ _
    go_wp2_with (first
      | ((with_reducible refine wpList_sliceHi 42 (.tmp 16) (.tmp 17) _ _ u1 ?_ ?_ (R1.out _) ?_); rfl; rfl)
      | ((with_reducible refine wpList_appR refT (.tmp 12) (.tmp 18) w.heap.size (.slice none 0 0) 0 [] ?_ HNil.out u1 i _ ?_ S1.out (flat_ones _) HM.out.2.1 HM.out.2.2.1 HM.out.1 ?_); rfl; rfl; intro v2 w2 O2 F2; (have q2 : w2.cell? ⟨q, 0, none⟩ = some v := (HR.out.blk.fr0 F2.out).cellAt (i := 0) rfl); (have hs2 := F2.out.size); (have HS2 := Lib.hid (S2.out.fr F2.out (fun _ _ _ => List.not_mem_nil))))
      | ((with_reducible refine wpList_sliceLo 42 (.tmp 25) (.tmp 27) _ _ u2 ?_ ?_ (R2.out _) ?_); rfl; rfl)
      | ((with_reducible refine wpList_appR refT (.tmp 21) (.tmp 28) w.heap.size v2 (0 + i) _ ?_ O2.out u2 _ _ ?_ HS2.out (flat_ones _) HM.out.2.2.2.1 HM.out.2.2.2.2 hs2 ?_); rfl; rfl; intro v3 w3 O3 F3; obtain ⟨a3, c3, rfl⟩ := own_sl O3.out; (have HQ3 := Lib.hid ((HR.out.blk.fr0 F2.out).fr F3.out (fun hx => by have h1 := (World.ownsRow.lt O2.out q (by simpa using hx)).1; have h2 := HR.out.blk.lt; omega))); (have q3 : w3.cell? ⟨q, 0, none⟩ = some v := HQ3.out.cellAt (i := 0) rfl); (have z3 := HQ3.out.froz 0)))
    go_ret
    have hfr : Fr [q] w w3 := ((F2.out.trans F3.out (fun x hx => .inr (World.ownsRow.lt O2.out x (by simpa using hx)).1))).wide0
    have hl : (S.take i ++ S.drop (i + 1)).length = 0 + i + (S.length - (i + 1)) := by
      have := HI.out
      simp
      omega
    have h5 := RB.put (T := S.take i ++ S.drop (i + 1)) HR.out HQ3.out hfr (by rw [hl, flat_app]; simpa using O3.out) (Nat.le_refl _)
    exact .inr ⟨i, HI.out, HO.out, rfl, _, h5.1, h5.2⟩
end Go.Proofs.Ytbafgheblindmaa
