/-
  queue: Drop, Double: contracts.
-/
import Derived.Test.YtbafgheblindmaaQTake
namespace Go.Proofs.Ytbafgheblindmaa
open Go.RowKit

theorem uniq_eq {S : List Itm} (h : S.Pairwise (fun a b => a.order ≠ b.order)) {x y : Itm} (hx : x ∈ S) (hy : y ∈ S) (e : x.order = y.order) : x = y := by
  induction S with
  | nil => cases hx
  | cons z S ih =>
    have hz : ∀ u, u ∈ S → z.order ≠ u.order := fun u hu => List.rel_of_pairwise_cons h hu
    rcases List.mem_cons.1 hx with rfl | hx'
    · rcases List.mem_cons.1 hy with rfl | hy'
      · rfl
      · exact absurd e (hz y hy')
    · rcases List.mem_cons.1 hy with rfl | hy'
      · exact absurd e.symm (hz x hx')
      · exact ih (List.Pairwise.of_cons h) hx' hy'

theorem at_mem {L : List Itm} {i : Nat} (h : i < L.length) : at' L i ∈ L := by rw [at_eq h]; exact List.getElem_mem h
theorem At.none {L S : List Itm} {o : Int} (hp : L.Perm S) (h : ∀ k, k < L.length → (at' L k).order ≠ o) : ∀ x, x ∈ S → x.order ≠ o := by
  intro x hx
  obtain ⟨k, hk, e⟩ := List.getElem_of_mem (hp.mem_iff.2 hx)
  have := h k hk
  rwa [at_eq hk, e] at this

def hasB (S : List Itm) (o : Int) : Bool := S.any (fun x => x.order == o)
def without (S : List Itm) (o : Int) : List Itm := S.filter (fun y => y.order != o)
theorem hasB_no {S : List Itm} {o : Int} (h : ∀ x, x ∈ S → x.order ≠ o) : hasB S o = false := by
  unfold hasB; rw [List.any_eq_false]; intro x hx; simpa using h x hx
theorem hasB_yes {S : List Itm} {o : Int} {x : Itm} (h : x ∈ S) (e : x.order = o) : hasB S o = true := by
  unfold hasB; rw [List.any_eq_true]; exact ⟨x, h, by simpa using e⟩
theorem without_no {S : List Itm} {o : Int} (h : ∀ x, x ∈ S → x.order ≠ o) : without S o = S := by
  unfold without; exact List.filter_eq_self.2 (fun x hx => by simpa using h x hx)

set_option maxRecDepth 100000 in
set_option maxHeartbeats 2000000 in
theorem qDrop (q : Nat) (v : Value) (S : List Itm) (last o : Int) (w : World) (h : QS w q v S last) :
    Calls Try.prog 17 #[.pointer (some ⟨q, 0, none⟩), .int .u64 o] w fun e w' => e = .returned (.bool (hasB S o)) ∧ Left q v w (without S o) last w' := by
  obtain ⟨L, hB, hO⟩ := h
  have HF := Lib.hid (qFind L q v last o w hB hO.room)
  have HB := Lib.hid hB
  have HO := Lib.hid hO
  clear hB hO
  go_enter Try.func17, Try.ntmps17
  go_wp2_with fail
  refine HF.out.mono ?_
  rintro e w1 ⟨r, rfl, HA, f1⟩
  rcases HA.out with ⟨rfl, hno⟩ | ⟨i, rfl, hi, ho⟩
  · have HN := Lib.hid (At.none HO.out.perm hno)
    clear HA hno
    have hd : decide ((0 : Int) ≤ -1) = false := rfl
    go_wp2_with fail
    go_ret
    rw [hasB_no HN.out, without_no HN.out]
    exact ⟨rfl, v, ⟨L, HB.out.fr0 f1, HO.out⟩, (Kept.refl _ _ _).fr0 f1⟩
  · obtain ⟨n, hn⟩ : ∃ n, L.length = n + 1 := ⟨L.length - 1, by omega⟩
    have hmem := HO.out.perm.mem_iff.1 (at_mem hi)
    have HBY := Lib.hid (hasB_yes hmem ho)
    have hd : decide ((0 : Int) ≤ (i : Int)) = true := by simp
    have hrm := HO.out.room
    have HR := Lib.hid (hRem L q n i v last w1 (HB.out.fr0 f1) hn (by have := HO.out.heap; rwa [hn] at this) (by omega) (by omega))
    have HN := Lib.hid hn
    have HOo := Lib.hid ho
    clear HA hmem ho hn hi hrm
    go_wp2_with (first
      | (go_at_call 20; refine (qHeap _ _).mono ?_; rintro e w2 ⟨rfl, rfl⟩)
      | (go_at_call 31; refine HR.out.mono ?_; intro e w2 hT1; (obtain ⟨rfl, v1, M, hM, hpm, hat, hB1, hk1⟩ := hT1.open); (have HB1 := Lib.hid hB1); (have HM1 := Lib.hid hM); (have HPM := Lib.hid hpm); (have HAT := Lib.hid hat); (have HK1 := Lib.hid hk1); clear hB1 hM hpm hat hk1 hT1))
    go_ret
    have := HO.out.drop HN.out HM1.out HPM.out HAT.out
    rw [HOo.out] at this
    rw [HBY.out]
    exact ⟨rfl, v1, ⟨_, HB1.out, this⟩, ((Kept.refl _ _ _).fr0 f1).trans HK1.out⟩

set_option maxRecDepth 100000 in
set_option maxHeartbeats 2000000 in
theorem qDoubleNo (q : Nat) (v : Value) (S : List Itm) (last o t : Int) (w : World) (h : QS w q v S last) (hno : ∀ x, x ∈ S → x.order ≠ o) :
    Calls Try.prog 13 #[.pointer (some ⟨q, 0, none⟩), .int .u64 o, .int .u64 t] w fun e w' => e = .returned (.tuple #[.int .u64 0, .bool false]) ∧ Fr [] w w' := by
  obtain ⟨L, hB, hO⟩ := h
  have HF := Lib.hid (qFind L q v last o w hB hO.room)
  have HP := Lib.hid hO.perm
  have HNo := Lib.hid hno
  clear hB hO hno
  go_enter Try.func13, Try.ntmps13
  go_wp2_with fail
  refine HF.out.mono ?_
  rintro e w1 ⟨r, rfl, HA, f1⟩
  rcases HA.out with ⟨rfl, hn⟩ | ⟨i, rfl, hi, ho⟩
  · clear hn HA
    have hd : decide ((0 : Int) ≤ -1) = false := rfl
    go_wp2_with fail
    go_ret2
    exact ⟨rfl, f1⟩
  · exact absurd ho (HNo.out _ (HP.out.mem_iff.1 (at_mem hi)))

set_option maxRecDepth 100000 in
set_option maxHeartbeats 2000000 in
theorem qDouble (q : Nat) (v : Value) (S : List Itm) (last o t : Int) (x : Itm) (w : World) (h : QS w q v S last) (hx : x ∈ S) (ho : x.order = o) (hf : S.length < 4096) (hl : last ≤ 1000000) :
    Calls Try.prog 13 #[.pointer (some ⟨q, 0, none⟩), .int .u64 o, .int .u64 t] w fun e w' => e = .returned (.tuple #[.int .u64 (last + 1), .bool true]) ∧ Left q v w (ins ⟨t, last + 1, x.to, x.data⟩ S) (last + 1) w' := by
  have HQ := Lib.hid h
  obtain ⟨L, hB, hO⟩ := h
  have HF := Lib.hid (qFind L q v last o w hB hO.room)
  have HP := Lib.hid hO.perm
  have HX := Lib.hid hx
  have HXo := Lib.hid ho
  have HU := Lib.hid hO.uniq
  have HB := Lib.hid hB
  clear hB hO hx ho
  go_enter Try.func13, Try.ntmps13
  go_wp2_with fail
  refine HF.out.mono ?_
  rintro e w1 ⟨r, rfl, HA, f1⟩
  rcases HA.out with ⟨rfl, hn⟩ | ⟨i, rfl, hi, ho⟩
  · exact absurd HXo.out (At.none HP.out hn x HX.out)
  · have hxe : at' L i = x := uniq_eq HU.out (HP.out.mem_iff.1 (at_mem hi)) HX.out (by rw [ho, HXo.out])
    have hd : decide ((0 : Int) ≤ (i : Int)) = true := by simp
    obtain ⟨n, hn⟩ : ∃ n, L.length = n + 1 := ⟨L.length - 1, by omega⟩
    have HB1 := Lib.hid (HB.out.fr0 f1)
    obtain ⟨g, c, rfl⟩ := HB.out.shape1 hn
    obtain ⟨a0, a1, a2, a3⟩ := HB1.out.its.cells4 rfl hi
    rw [hxe] at a2 a3
    have hq : w1.cell? ⟨q, 0, none⟩ = some (.slice (some ⟨g, 0, none⟩) (n + 1) c) := HB1.out.blk.cellAt (i := 0) rfl
    have hi2 : i < n + 1 := by omega
    have HAd := Lib.hid (fun w2 (f2 : Fr [] w w2) => qAdd q (.slice (some ⟨g, 0, none⟩) (n + 1) c) S last t x.to x.data w2 (HQ.out.fr0 f2) hf hl)
    have hn4 : n + 1 ≤ 4096 := by have := HQ.out.room; have := HP.out.length_eq; omega
    have HF1 := Lib.hid f1
    clear HA hxe ho hn hi a0 a1 f1
    go_wp2_with fail
    go_region_with (go_at_call 10; refine (HAd.out _ (HF1.out.drew)).mono ?_; rintro e w2 ⟨rfl, v2, hQ2, hK2⟩; (have HQ2 := Lib.hid hQ2); (have HK2 := Lib.hid hK2); clear hQ2 hK2)
    all_goals go_wp2_with fail
    all_goals go_ret2
    all_goals exact ⟨rfl, v2, HQ2.out, ((Kept.refl _ _ _).fr0 (HF1.out.drew)).trans HK2.out⟩
end Go.Proofs.Ytbafgheblindmaa
