/-
  queue: Add, Pop: contracts.
-/
import Derived.Test.YtbafgheblindmaaQFind
import Derived.StillTailTactics
namespace Go.Proofs.Ytbafgheblindmaa
open Go.RowKit

/-- What a deed leaves: a queue, its blocks alone written. -/
def Left (q : Nat) (v : Value) (w : World) (S : List Itm) (last : Int) (w' : World) : Prop := ∃ v', QS w' q v' S last ∧ Kept q v w v' w'

set_option maxHeartbeats 1000000 in
theorem qAddFull (q : Nat) (v : Value) (S : List Itm) (last t d : Int) (s : ByteArray) (w : World) (h : QS w q v S last) (hf : S.length = 4096) :
    Calls Try.prog 10 #[.pointer (some ⟨q, 0, none⟩), .int .u64 t, .int .i64 d, .string s] w fun e w' => e = .returned (.tuple #[.int .u64 0, .int .i64 4]) ∧ w = w' := by
  have HL := Lib.hid (qLen q v S last w h)
  rw [hf] at HL
  clear h hf
  go_enter Try.func10, Try.ntmps10
  go_wp2_with (go_at_call 12; refine HL.out.mono ?_; rintro e w2 ⟨rfl, rfl⟩)
  go_ret2
  exact ⟨rfl, rfl⟩

theorem addS {w : World} {q : Nat} {v : Value} {L : List Itm} {last : Int} (h : QB w q v L last) : w.cell? ⟨q, 1, none⟩ = some (.int .u64 last) := h.blk.cellAt (i := 1) rfl

set_option maxRecDepth 100000 in
set_option maxHeartbeats 2000000 in
theorem qAdd (q : Nat) (v : Value) (S : List Itm) (last t d : Int) (s : ByteArray) (w : World) (h : QS w q v S last) (hf : S.length < 4096) (hl : last ≤ 1000000) :
    Calls Try.prog 10 #[.pointer (some ⟨q, 0, none⟩), .int .u64 t, .int .i64 d, .string s] w fun e w' => e = .returned (.tuple #[.int .u64 (last + 1), .int .i64 0]) ∧ Left q v w (ins ⟨t, last + 1, d, s⟩ S) (last + 1) w' := by
  have HL := Lib.hid (qLen q v S last w h)
  obtain ⟨L, hB, hO⟩ := h
  have hlen : ((S.length : Int) == 4096) = false := by simp; omega
  have hc := addS hB
  have hz := hB.blk.froz 1
  have h0 := hO.last0
  have hLl := hO.len
  have hB1 : QB (w.setCell ⟨q, 1, none⟩ (.int .u64 (last + 1))) q v L (last + 1) :=
    ⟨hB.blk.set 1 _, hB.its.fr ((Fr.refl [q] w).setCell (p := ⟨q, 1, none⟩) (.inl (by simp)) _) (fun x hx e => by simp at e; subst e; exact hB.ne hx), hB.ne⟩
  have hK1 : Kept q v w v (w.setCell ⟨q, 1, none⟩ (.int .u64 (last + 1))) := ⟨(Fr.refl _ _).setCell (.inl (by simp)) _, fun _ h => .inl h⟩
  have HP := Lib.hid (fun w0 (hB0 : QB w0 q v L (last + 1)) => hPush L q v (last + 1) ⟨t, last + 1, d, s⟩ w0 hB0 hO.heap (by omega))
  have HO := Lib.hid hO
  have HLl : Hid (L.length < 4096) := by show L.length < 4096; omega
  have HB1 := Lib.hid hB1
  have HK1 := Lib.hid hK1
  clear hB hO hB1 hK1 hLl
  unfold Itm.cells at HP
  go_enter Try.func10, Try.ntmps10
  go_wp2_with (go_at_call 12; refine HL.out.mono ?_; rintro e w2 ⟨rfl, rfl⟩)
  have hc1 := addS HB1.out
  generalize (w.setCell ⟨q, 1, none⟩ (.int .u64 (last + 1))) = w1 at *
  go_region_held3 (fun w' => w'.cell? ⟨q, 1, none⟩ = some (.int .u64 (last + 1)))
    (first | go_keep | exact addS HB3.out)
    (first | (go_at_call 20; refine (qHeap _ _).mono ?_; rintro e w2 ⟨rfl, rfl⟩) | (go_at_call 19; refine (HP.out _ (HB1.out.fr0 (Fr.refl _ _).drew)).mono ?_; rintro e w3 ⟨rfl, v3, M, hB3, hM, hpm, hk3⟩; (have HB3 := Lib.hid hB3); (have HM3 := Lib.hid hM); (have HPM := Lib.hid hpm); (have HK3 := Lib.hid hk3); clear hB3 hM hpm hk3))
  go_wp2_with fail
  go_ret2
  exact ⟨rfl, v3, ⟨M, HB3.out, HO.out.add HLl.out rfl HM3.out HPM.out⟩, (HK1.out.fr0 (Fr.refl _ _).drew).trans HK3.out⟩
end Go.Proofs.Ytbafgheblindmaa
