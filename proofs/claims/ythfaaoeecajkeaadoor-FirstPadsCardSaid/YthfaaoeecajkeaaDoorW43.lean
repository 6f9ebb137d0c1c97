/-
  Texts of this seat, joined: GPads GFp.
-/
import Derived.Test.YthfaaoeecajkeaaDoorW15
import Derived.Test.YthfaaoeecajkeaaDoorW14
import Derived.Test.YthfaaoeecajkeaaDoorRows
import Derived.Test.YthfaaoeecajkeaaDoorW29
import Derived.Test.YthfaaoeecajkeaaDoorW40
import Derived.Test.YthfaaoeecajkeaaDoorW35
import Derived.Deep.QuietTactic
set_option linter.unusedSimpArgs false
set_option linter.unusedVariables false
namespace Go.Proofs.YthfaaoeecajkeaaDoor
open Go.RowKit

theorem seg_app_l (a b : List UInt8) (k : Nat) (h : a.length = k) : seg (a ++ b) 0 k = a := by
  unfold seg
  rw [List.drop_zero, List.take_append_of_le_length (by omega), List.take_of_length_le (by omega)]
theorem seg_app_r (a b : List UInt8) (k o n : Nat) (h : a.length = k) (ho : k ≤ o) : seg (a ++ b) o n = seg b (o - k) n := by
  unfold seg
  rw [List.drop_append, List.drop_of_length_le (by omega), List.nil_append, h]
theorem seg_set (l : List UInt8) (k o n : Nat) (x : UInt8) (h : o + n ≤ k) : seg (l.set k x) o n = seg l o n := by
  unfold seg
  rw [List.drop_set, if_neg (by omega), List.take_set_of_le (by omega)]
theorem fix1_num (x : Int) (h0 : 0 ≤ x) (h : x < 256) : ((beNum 0 (fixL x 1) : Nat) : Int) = x := by
  obtain ⟨n, rfl⟩ : ∃ n : Nat, x = (n : Int) := ⟨x.toNat, by omega⟩
  rw [beNum_fix1 n (by omega)]
theorem fix4_num (x : Int) (h0 : 0 ≤ x) (h : x < 4294967296) : ((beNum 0 (fixL x 4) : Nat) : Int) = x := by
  obtain ⟨n, rfl⟩ : ∃ n : Nat, x = (n : Int) := ⟨x.toNat, by omega⟩
  rw [beNum_fix4 n (by omega)]
theorem fix8_num (x : Int) (h : U64 x) : ((beNum 0 (fixL x 8) : Nat) : Int) = x := by
  unfold U64 at h
  obtain ⟨n, rfl⟩ : ∃ n : Nat, x = (n : Int) := ⟨x.toNat, by omega⟩
  rw [beNum_fix8 n (by omega)]

theorem may_old (k : Int) : hasB (entMay k).1 111 = decide (k = 11) := by
  by_cases h : 0 ≤ k ∧ k ≤ 11
  · have : k = 0 ∨ k = 1 ∨ k = 2 ∨ k = 3 ∨ k = 4 ∨ k = 5 ∨ k = 6 ∨ k = 7 ∨ k = 8 ∨ k = 9 ∨ k = 10 ∨ k = 11 := by omega
    rcases this with rfl | rfl | rfl | rfl | rfl | rfl | rfl | rfl | rfl | rfl | rfl | rfl <;> decide
  · have he : (entMay k).1 = ⟨#[]⟩ := by
      unfold entMay
      repeat rw [if_neg (by omega)]
    rw [he, decide_eq_false (by omega)]
    decide
theorem ok_old (e : Ent) (hok : e.ok = true) (hl : e.lvl ≤ 1) : e.old = bs [] := by
  have hk : e.kind ≠ 11 := by
    intro h
    unfold Ent.lvl at hl
    rw [if_pos h] at hl
    omega
  unfold Ent.ok at hok
  simp only [Bool.and_eq_true] at hok
  have hb := fit_mem hok.2 ⟨111, !e.old.toList.isEmpty, decide ((e.old.size : Int) ≤ 64)⟩ (by simp [Ent.flds])
  unfold Fld.bad at hb
  rw [may_old, decide_eq_false hk] at hb
  simp at hb
  rw [Lib.toList_data] at hb
  rw [← bs_of e.old, hb]
theorem ok_words (e : Ent) (hf : e.Fits) (hok : e.ok = true) : e.block < 4294967296 ∧ e.many < 4294967296 := by
  obtain ⟨_, _, _, _, hB, hM, _, _⟩ := hf
  unfold U64 at hB hM
  unfold Ent.ok at hok
  simp only [Bool.and_eq_true] at hok
  have h1 := fit_mem hok.2 ⟨98, decide (0 < e.block), smallB e.block⟩ (by simp [Ent.flds])
  have h2 := fit_mem hok.2 ⟨109, decide (0 < e.many), smallB e.many⟩ (by simp [Ent.flds])
  unfold Fld.bad smallB at h1 h2
  constructor
  · split at h1
    · simp at h1; omega
    · simp at h1; omega
  · split at h2
    · simp at h2; omega
    · simp at h2; omega

theorem put_seg0 (e : Ent) : seg (put5 e) 0 1 = fixL e.kind 1 := by
  unfold put5
  rw [seg_app_l _ _ 1 (fixL_length _ 1 (by decide))]
theorem put_seg1 (e : Ent) : seg (put5 e) 1 8 = fixL e.term 8 := by
  unfold put5
  rw [seg_app_r _ _ 1 1 8 (fixL_length _ 1 (by decide)) (by decide), seg_app_l _ _ 8 (fixL_length _ 8 (by decide))]
theorem put_seg2 (e : Ent) : seg (put5 e) 9 8 = fixL e.index 8 := by
  unfold put5
  rw [seg_app_r _ _ 1 9 8 (fixL_length _ 1 (by decide)) (by decide), seg_app_r _ _ 8 8 8 (fixL_length _ 8 (by decide)) (by decide), seg_app_l _ _ 8 (fixL_length _ 8 (by decide))]
theorem put_seg3 (e : Ent) : seg (put5 e) 17 8 = fixL e.client 8 := by
  unfold put5
  rw [seg_app_r _ _ 1 17 8 (fixL_length _ 1 (by decide)) (by decide), seg_app_r _ _ 8 16 8 (fixL_length _ 8 (by decide)) (by decide), seg_app_r _ _ 8 8 8 (fixL_length _ 8 (by decide)) (by decide), seg_app_l _ _ 8 (fixL_length _ 8 (by decide))]
theorem put_seg4 (e : Ent) : seg (put5 e) 25 8 = fixL e.seq 8 := by
  unfold put5
  rw [seg_app_r _ _ 1 25 8 (fixL_length _ 1 (by decide)) (by decide), seg_app_r _ _ 8 24 8 (fixL_length _ 8 (by decide)) (by decide), seg_app_r _ _ 8 16 8 (fixL_length _ 8 (by decide)) (by decide), seg_app_r _ _ 8 8 8 (fixL_length _ 8 (by decide)) (by decide), seg_app_l _ _ 8 (fixL_length _ 8 (by decide))]
theorem put_seg5 (e : Ent) : seg (put5 e) 33 4 = fixL e.block 4 := by
  unfold put5
  rw [seg_app_r _ _ 1 33 4 (fixL_length _ 1 (by decide)) (by decide), seg_app_r _ _ 8 32 4 (fixL_length _ 8 (by decide)) (by decide), seg_app_r _ _ 8 24 4 (fixL_length _ 8 (by decide)) (by decide), seg_app_r _ _ 8 16 4 (fixL_length _ 8 (by decide)) (by decide), seg_app_r _ _ 8 8 4 (fixL_length _ 8 (by decide)) (by decide), seg_app_l _ _ 4 (fixL_length _ 4 (by decide))]
theorem put_seg6 (e : Ent) : seg (put5 e) 37 4 = fixL e.many 4 := by
  unfold put5
  rw [seg_app_r _ _ 1 37 4 (fixL_length _ 1 (by decide)) (by decide), seg_app_r _ _ 8 36 4 (fixL_length _ 8 (by decide)) (by decide), seg_app_r _ _ 8 28 4 (fixL_length _ 8 (by decide)) (by decide), seg_app_r _ _ 8 20 4 (fixL_length _ 8 (by decide)) (by decide), seg_app_r _ _ 8 12 4 (fixL_length _ 8 (by decide)) (by decide), seg_app_r _ _ 4 4 4 (fixL_length _ 4 (by decide)) (by decide), seg_app_l _ _ 4 (fixL_length _ 4 (by decide))]
theorem put_seg7 (e : Ent) : seg (put5 e) 41 1 = fixL e.node 1 := by
  unfold put5
  rw [seg_app_r _ _ 1 41 1 (fixL_length _ 1 (by decide)) (by decide), seg_app_r _ _ 8 40 1 (fixL_length _ 8 (by decide)) (by decide), seg_app_r _ _ 8 32 1 (fixL_length _ 8 (by decide)) (by decide), seg_app_r _ _ 8 24 1 (fixL_length _ 8 (by decide)) (by decide), seg_app_r _ _ 8 16 1 (fixL_length _ 8 (by decide)) (by decide), seg_app_r _ _ 4 8 1 (fixL_length _ 4 (by decide)) (by decide), seg_app_r _ _ 4 4 1 (fixL_length _ 4 (by decide)) (by decide), seg_app_l _ _ 1 (fixL_length _ 1 (by decide))]
theorem put_seg8 (e : Ent) : seg (put5 e) 42 1 = fixL e.level 1 := by
  unfold put5
  rw [seg_app_r _ _ 1 42 1 (fixL_length _ 1 (by decide)) (by decide), seg_app_r _ _ 8 41 1 (fixL_length _ 8 (by decide)) (by decide), seg_app_r _ _ 8 33 1 (fixL_length _ 8 (by decide)) (by decide), seg_app_r _ _ 8 25 1 (fixL_length _ 8 (by decide)) (by decide), seg_app_r _ _ 8 17 1 (fixL_length _ 8 (by decide)) (by decide), seg_app_r _ _ 4 9 1 (fixL_length _ 4 (by decide)) (by decide), seg_app_r _ _ 4 5 1 (fixL_length _ 4 (by decide)) (by decide), seg_app_r _ _ 1 1 1 (fixL_length _ 1 (by decide)) (by decide), seg_app_l _ _ 1 (fixL_length _ 1 (by decide))]
theorem put_seg9 (e : Ent) : seg (put5 e) 43 1 = fixL (e.data.size : Nat) 1 := by
  unfold put5
  rw [seg_app_r _ _ 1 43 1 (fixL_length _ 1 (by decide)) (by decide), seg_app_r _ _ 8 42 1 (fixL_length _ 8 (by decide)) (by decide), seg_app_r _ _ 8 34 1 (fixL_length _ 8 (by decide)) (by decide), seg_app_r _ _ 8 26 1 (fixL_length _ 8 (by decide)) (by decide), seg_app_r _ _ 8 18 1 (fixL_length _ 8 (by decide)) (by decide), seg_app_r _ _ 4 10 1 (fixL_length _ 4 (by decide)) (by decide), seg_app_r _ _ 4 6 1 (fixL_length _ 4 (by decide)) (by decide), seg_app_r _ _ 1 2 1 (fixL_length _ 1 (by decide)) (by decide), seg_app_r _ _ 1 1 1 (fixL_length _ 1 (by decide)) (by decide), seg_app_l _ _ 1 (fixL_length _ 1 (by decide))]
theorem put_seg10 (e : Ent) (h : e.data.size ≤ 66) : seg (put5 e) 44 66 = e.data.data.toList ++ List.replicate (66 - e.data.size) 0 := by
  unfold put5
  rw [seg_app_r _ _ 1 44 66 (fixL_length _ 1 (by decide)) (by decide), seg_app_r _ _ 8 43 66 (fixL_length _ 8 (by decide)) (by decide), seg_app_r _ _ 8 35 66 (fixL_length _ 8 (by decide)) (by decide), seg_app_r _ _ 8 27 66 (fixL_length _ 8 (by decide)) (by decide), seg_app_r _ _ 8 19 66 (fixL_length _ 8 (by decide)) (by decide), seg_app_r _ _ 4 11 66 (fixL_length _ 4 (by decide)) (by decide), seg_app_r _ _ 4 7 66 (fixL_length _ 4 (by decide)) (by decide), seg_app_r _ _ 1 3 66 (fixL_length _ 1 (by decide)) (by decide), seg_app_r _ _ 1 2 66 (fixL_length _ 1 (by decide)) (by decide), seg_app_r _ _ 1 1 66 (fixL_length _ 1 (by decide)) (by decide)]
  unfold seg
  rw [List.drop_zero, List.take_of_length_le]
  rw [List.length_append, List.length_replicate]
  have : e.data.data.toList.length = e.data.size := rfl
  omega
theorem put_cut (e : Ent) (h : e.data.size ≤ 64) : cut5 (put5 e) = e.data.size := by
  unfold cut5 num
  rw [put_seg9, fix1_num _ (by omega) (by omega), Int.toNat_natCast]
  omega
theorem ent5_put5 (e : Ent) (hf : e.Fits) (hok : e.ok = true) (hl : e.lvl ≤ 1) : ent5 (put5 e) = e := by
  have hd := ok_data e hok
  obtain ⟨hk, hn, hv⟩ := ok_small e hok
  obtain ⟨hw1, hw2⟩ := ok_words e hf hok
  have ho := ok_old e hok hl
  obtain ⟨hT, hI, hC, hS, hB, hM, hD, hO⟩ := hf
  unfold ent5
  rw [put_cut e hd, put_seg10 e (by omega)]
  unfold num
  rw [put_seg0, put_seg1, put_seg2, put_seg3, put_seg4, put_seg5, put_seg6, put_seg7, put_seg8, fix8_num _ hT, fix8_num _ hI, fix8_num _ hC, fix8_num _ hS, fix1_num _ hk.1 (by omega), fix4_num _ (by unfold U64 at hB; omega) hw1, fix4_num _ (by unfold U64 at hM; omega) hw2, fix1_num _ hn.1 (by omega), fix1_num _ hv.1 (by omega)]
  have hz : e.data.data.toList.length = e.data.size := rfl
  rw [List.take_append_of_le_length (by omega), List.take_of_length_le (by omega), bs_of, ← ho]
theorem good5_put5 (e : Ent) (hf : e.Fits) (hok : e.ok = true) (hl : e.lvl ≤ 1) : good5 (put5 e) = true := by
  have hlen := put5_length e (by have := ok_data e hok; omega)
  rw [good5_put _ (by omega), ent5_put5 e hf hok hl, hok, decide_eq_true hl, List.take_of_length_le (by omega)]
  simp
theorem get5_put5 (e : Ent) (hf : e.Fits) (hok : e.ok = true) (hl : e.lvl ≤ 1) : get5 (put5 e) 0 = (e, 110) := by
  have hlen := put5_length e (by have := ok_data e hok; omega)
  unfold get5
  rw [List.drop_zero, if_pos ⟨by omega, good5_put5 e hf hok hl⟩, ent5_put5 e hf hok hl]
theorem get5_none (l : List UInt8) (h : good5 l = false) : get5 l 0 = (ent0, l.length + 1) := by
  unfold get5
  rw [List.drop_zero, if_neg (fun hh => by rw [h] at hh; exact absurd hh.2 (by decide))]

theorem put_zero (e : Ent) (h : e.data.size ≤ 64) (k : Nat) (h1 : 44 + e.data.size ≤ k) (h2 : k < (put5 e).length) : (put5 e)[k] = 0 := by
  have hlen := put5_length e (by omega)
  have hs := put_seg10 e (by omega)
  have h3 : (seg (put5 e) 44 66)[k - 44]? = (put5 e)[k]? := by
    unfold seg
    rw [List.getElem?_take_of_lt (by omega), List.getElem?_drop]
    congr 1
    omega
  have hz : e.data.data.toList.length = e.data.size := rfl
  rw [hs, List.getElem?_append_right (by omega), List.getElem?_replicate, if_pos (by omega), List.getElem?_eq_getElem h2] at h3
  exact (Option.some.inj h3).symm
theorem put_same (e : Ent) (h : e.data.size ≤ 64) (k : Nat) (h1 : 44 + e.data.size ≤ k) (h2 : k < (put5 e).length) : (put5 e).set k 0 = put5 e := by
  have := put_zero e h k h1 h2
  conv => lhs; rw [← this]
  exact List.set_getElem_self h2
theorem put_pad (e : Ent) (h : e.data.size ≤ 64) (k : Nat) (x : UInt8) (hx : x ≠ 0) (h1 : 44 + e.data.size ≤ k) (h2 : k < 110) : good5 ((put5 e).set k x) = false := by
  have hlen := put5_length e (by omega)
  have hc : cut5 ((put5 e).set k x) = e.data.size := by
    unfold cut5 num
    rw [seg_set _ _ _ _ _ (by omega)]
    exact put_cut e h
  have hm : x ∈ pad5 ((put5 e).set k x) := by
    unfold pad5
    rw [hc]
    refine List.mem_of_getElem? (i := k - 44 - e.data.size) ?_
    unfold seg
    rw [List.getElem?_drop, List.getElem?_take_of_lt (by omega), List.getElem?_drop, show 44 + (e.data.size + (k - 44 - e.data.size)) = k by omega, List.getElem?_set_self (by omega)]
  unfold good5
  have : (pad5 ((put5 e).set k x)).all (· == 0) = false := by
    rw [List.all_eq_false]
    exact ⟨x, hm, by simpa using hx⟩
  rw [this, Bool.and_false]
theorem put_long (e : Ent) (h : e.data.size ≤ 64) (v : UInt8) (hv : 65 ≤ v.toNat) : good5 ((put5 e).set 43 v) = false := by
  have hlen := put5_length e (by omega)
  have hs : seg ((put5 e).set 43 v) 43 1 = [v] := by
    have h66 : ((put5 e).set 43 v).length = 110 := by rw [List.length_set, hlen]
    unfold seg
    rw [List.drop_eq_getElem_cons (by omega), List.getElem_set_self, List.take_succ_cons, List.take_zero]
  have hc : 65 ≤ cut5 ((put5 e).set 43 v) := by
    unfold cut5 num
    rw [hs, beNum_one']
    omega
  have hd : 65 ≤ (ent5 ((put5 e).set 43 v)).data.size := by
    show 65 ≤ (bs _).size
    rw [bs_size, List.length_take, seg_length _ 44 66 (by rw [List.length_set, hlen]; omega)]
    have : cut5 ((put5 e).set 43 v) ≤ 66 := by unfold cut5; omega
    omega
  have hno : (ent5 ((put5 e).set 43 v)).ok = false := by
    cases ho : (ent5 ((put5 e).set 43 v)).ok with
    | false => rfl
    | true => have := ok_data _ ho; omega
  unfold good5
  rw [hno, Bool.false_and, Bool.false_and]
end Go.Proofs.YthfaaoeecajkeaaDoor

namespace Go.Proofs.YthfaaoeecajkeaaDoor
open Go.RowKit

/-- A row of bytes that holds the list p. -/
def Bts (w : World) (g : Nat) (p : List UInt8) : Prop := ∃ (C : Array Value) (fr : Nat × Nat), w.heap[g]? = some (.cells C 5 fr) ∧ C.size ≤ fr.1 ∧ p.length ≤ C.size ∧ ∀ j (hj : j < p.length), C[j]? = some (.int .u8 (p[j].toNat : Int))
theorem Bts.of {w : World} {g : Nat} {p : List UInt8} (h : Byt w g (bs p) 5) : Bts w g p := by
  obtain ⟨C, fr, h1, h2, h3⟩ := h
  have hc : ∀ j (hj : j < p.length), C[j]? = some (.int .u8 (p[j].toNat : Int)) := fun j hj => by
    rw [h3 j (by rw [bs_size]; exact hj), bs_list, List.getD_eq_getElem?_getD, List.getElem?_eq_getElem hj]
    rfl
  refine ⟨C, fr, h1, h2, ?_, hc⟩
  rcases Nat.lt_or_ge C.size p.length with h4 | h4
  · have := hc C.size h4
    rw [Array.getElem?_eq_none (Nat.le_refl _)] at this
    cases this
  · exact h4
theorem Bts.fr {S : List Nat} {w w' : World} {g : Nat} {p : List UInt8} (h : Bts w g p) (hf : Fr S w w') (hn : g ∉ S) : Bts w' g p := by
  obtain ⟨C, fr, h1, h2⟩ := h
  exact ⟨C, fr, hf.obj h1 hn, h2⟩
theorem Bts.lt {w : World} {g : Nat} {p : List UInt8} (h : Bts w g p) : g < w.heap.size := by
  obtain ⟨C, fr, h1, _⟩ := h
  exact blk_lt h1
theorem Bts.cell {w : World} {g : Nat} {p : List UInt8} (h : Bts w g p) (j : Nat) (hj : j < p.length) : w.cell? ⟨g, j, none⟩ = some (.int .u8 (p[j].toNat : Int)) := by
  obtain ⟨C, fr, h1, _, _, h4⟩ := h
  simp only [World.cell?, h1]
  simpa using h4 j hj
theorem Bts.froz {w : World} {g : Nat} {p : List UInt8} (h : Bts w g p) (j : Nat) (hj : j < p.length) : w.frozen? ⟨g, j, none⟩ = false := by
  obtain ⟨C, fr, h1, h2, h3, h4⟩ := h
  simp only [World.frozen?, h1, Bool.and_eq_false_iff, decide_eq_false_iff_not]
  left; omega
theorem Bts.set {w : World} {g : Nat} {p : List UInt8} (h : Bts w g p) (k : Nat) (q : Int) (h0 : 0 ≤ q) (h1 : q ≤ 255) : Bts (w.setCell ⟨g, k, none⟩ (.int .u8 q)) g (p.set k (UInt8.ofNat q.toNat)) := by
  obtain ⟨C, fr, h2, h3, h4, h5⟩ := h
  have hb : ((UInt8.ofNat q.toNat).toNat : Int) = q := by simp; omega
  refine ⟨C.setIfInBounds k (.int .u8 q), fr, by simp [World.setCell, Array.getElem?_modify, h2], by simpa using h3, by simpa using h4, fun j hj => ?_⟩
  have hj2 : j < p.length := by rwa [List.length_set] at hj
  rw [Array.getElem?_setIfInBounds]
  by_cases e : k = j
  · subst e
    rw [if_pos rfl, if_pos (by omega), List.getElem_set_self, hb]
  · rw [if_neg e, List.getElem_set_ne e]
    exact h5 j hj2
theorem Bts.str {w : World} {g : Nat} {p : List UInt8} (h : Bts w g p) (cap : Nat) : (convert 43 9 (.slice (some ⟨g, 0, none⟩) p.length cap)).run Tryd.prog w = .ok (.string (bs p)) w :=
  run_convert_bytes_back (P := Tryd.prog) w 43 9 5 ⟨g, 0, none⟩ cap p Tryd.underlying43 Tryd.underlying5 Tryd.underlying9 (fun i hi => by
    rw [← h.cell i hi]
    unfold Addr.add
    split
    · subst i; rfl
    · simp)
end Go.Proofs.YthfaaoeecajkeaaDoor
namespace Go.Proofs.YthfaaoeecajkeaaDoor.firstPads
open Go.RowKit Go.Proofs.YthfaaoeecajkeaaDoor

theorem tmod_facts (x : Int) (q : Nat) (h0 : 0 ≤ x) (hq : 0 < q) : ∃ r : Nat, x.tmod (q : Int) = (r : Int) ∧ r < q := by
  rw [Int.tmod_eq_emod_of_nonneg h0]
  have h1 := Int.emod_nonneg x (b := (q : Int)) (by omega)
  have h2 := Int.emod_lt_of_pos x (b := (q : Int)) (by omega)
  exact ⟨(x % (q : Int)).toNat, by omega, by omega⟩
theorem pad_nums (d qq r kk : Nat) (at_ : Int) (hd : d ≤ 64) (hqq : 66 - d = qq) (h : r < qq) (hkk : 44 + d + r = kk) (h0 : 0 ≤ at_) (h1 : at_ ≤ 255) :
    (wrap64 (44 + (d : Int)) = 44 + (d : Int) ∧ IntKind.i64.wrap (44 + (d : Int)) = 44 + (d : Int) ∧ wrap64 (66 - (d : Int)) = (qq : Int) ∧ IntKind.i64.wrap (66 - (d : Int)) = (qq : Int)) ∧
    (IntKind.i64.wrap at_ = at_ ∧ wrap64 at_ = at_ ∧ wrap64 (44 + (d : Int) + (r : Int)) = (kk : Int) ∧ IntKind.i64.wrap (44 + (d : Int) + (r : Int)) = (kk : Int)) ∧
    (wrap64 (r : Int) = (r : Int) ∧ IntKind.i64.wrap (r : Int) = (r : Int) ∧ ¬ (qq : Int) = 0 ∧ ((qq : Int) == 0) = false) ∧ kk < 110 ∧ 44 + d ≤ kk :=
  ⟨⟨IntWalk.wrap64_in _ (by omega), IntWalk.i64_in _ (by omega), by rw [IntWalk.wrap64_in] <;> omega, by rw [IntWalk.i64_in] <;> omega⟩, ⟨IntWalk.i64_in _ (by omega), IntWalk.wrap64_in _ (by omega), by rw [IntWalk.wrap64_in] <;> omega, by rw [IntWalk.i64_in] <;> omega⟩, ⟨IntWalk.wrap64_in _ (by omega), IntWalk.i64_in _ (by omega), by omega, by simp; omega⟩, by omega, by omega⟩
/-- What is read where a byte behind the data was set. -/
theorem pad_got (e : Ent) (hf : e.Fits) (hok : e.ok = true) (hl : e.lvl ≤ 1) (k : Nat) (x : UInt8) (h1 : 44 + e.data.size ≤ k) (h2 : k < 110) :
    get5 ((put5 e).set k x) 0 = if x = 0 then (e, 110) else (ent0, 111) := by
  have hd := ok_data e hok
  have hlen := put5_length e (by omega)
  split
  · rename_i hx
    rw [hx, put_same e hd k h1 (by omega)]
    exact get5_put5 e hf hok hl
  · rename_i hx
    rw [get5_none _ (put_pad e hd k x hx h1 h2), List.length_set, hlen]

set_option maxRecDepth 100000 in
set_option maxHeartbeats 8000000 in
theorem walk (a : Ent) (qa : Bool) (at_ by_ : Int) (w : World) (ha : a.Fits) (hat : 0 ≤ at_ ∧ at_ ≤ 255) (hby : 0 ≤ by_ ∧ by_ ≤ 255) :
    Calls Tryd.prog 4 #[.agg #[.int .u64 a.term, .int .u64 a.index, .int .i64 a.kind, .int .u64 a.client, .int .u64 a.seq, .int .u64 a.block, .int .u64 a.many, .int .i64 a.node, .int .i64 a.level, .string a.data, .string a.old, .bool qa], .int .u8 at_, .int .u8 by_] w fun e w' => e = .returned (.bool true) ∧ Fr [] w w' := by
  have HMa := Lib.hid (fun w => made_own a w ha)
  obtain ⟨A, hA⟩ : ∃ A, madeOf a = A := ⟨_, rfl⟩
  have hAf := madeOf_fits a ha
  have hAo := madeOf_ok a
  rw [hA] at HMa hAf hAo
  have HPa := Lib.hid (fun w => pPut A w hAf)
  have HLa := Lib.hid (fun w => eLevel A w)
  rw [hAo] at HPa
  have HAf := Lib.hid hAf
  have HAo := Lib.hid hAo
  have hd := ok_data A hAo
  clear ha hA hAf hAo
  unfold Ent.cells at HMa HPa HLa
  have HBa := Lib.hid (Blk.new w #[.int .u64 a.term, .int .u64 a.index, .int .i64 a.kind, .int .u64 a.client, .int .u64 a.seq, .int .u64 a.block, .int .u64 a.many, .int .i64 a.node, .int .i64 a.level, .string a.data, .string a.old, .bool qa] 26)
  have HFv : Hid (Fr [] w (w.alloc (.cells #[.int .u64 a.term, .int .u64 a.index, .int .i64 a.kind, .int .u64 a.client, .int .u64 a.seq, .int .u64 a.block, .int .u64 a.many, .int .i64 a.node, .int .i64 a.level, .string a.data, .string a.old, .bool qa] 26))) := (Fr.refl _ _).alloc _
  go_enter Tryd.func4, Tryd.ntmps4
  go_wp2_with fail
  generalize w.alloc (.cells #[.int .u64 a.term, .int .u64 a.index, .int .i64 a.kind, .int .u64 a.client, .int .u64 a.seq, .int .u64 a.block, .int .u64 a.many, .int .i64 a.node, .int .i64 a.level, .string a.data, .string a.old, .bool qa] 26) = V at *
  generalize hp : w.heap.size = p at *
  have Hp := Lib.hid hp
  clear hp
  refine (gExamples _).mono ?_
  rintro x w1 ⟨rfl, f1⟩
  have HBa1 := Lib.hid (HBa.out.fr0 f1)
  have HF1 := Lib.hid (HFv.out.trans0 f1)
  clear f1 HBa HFv
  have a0 : w1.cell? ⟨p, 0, none⟩ = some (.int .u64 a.term) := HBa1.out.cellAt (i := 0) rfl
  have a1 : w1.cell? ⟨p, 1, none⟩ = some (.int .u64 a.index) := HBa1.out.cellAt (i := 1) rfl
  have a2 : w1.cell? ⟨p, 2, none⟩ = some (.int .i64 a.kind) := HBa1.out.cellAt (i := 2) rfl
  have a3 : w1.cell? ⟨p, 3, none⟩ = some (.int .u64 a.client) := HBa1.out.cellAt (i := 3) rfl
  have a4 : w1.cell? ⟨p, 4, none⟩ = some (.int .u64 a.seq) := HBa1.out.cellAt (i := 4) rfl
  have a5 : w1.cell? ⟨p, 5, none⟩ = some (.int .u64 a.block) := HBa1.out.cellAt (i := 5) rfl
  have a6 : w1.cell? ⟨p, 6, none⟩ = some (.int .u64 a.many) := HBa1.out.cellAt (i := 6) rfl
  have a7 : w1.cell? ⟨p, 7, none⟩ = some (.int .i64 a.node) := HBa1.out.cellAt (i := 7) rfl
  have a8 : w1.cell? ⟨p, 8, none⟩ = some (.int .i64 a.level) := HBa1.out.cellAt (i := 8) rfl
  have a9 : w1.cell? ⟨p, 9, none⟩ = some (.string a.data) := HBa1.out.cellAt (i := 9) rfl
  have a10 : w1.cell? ⟨p, 10, none⟩ = some (.string a.old) := HBa1.out.cellAt (i := 10) rfl
  have a11 : w1.cell? ⟨p, 11, none⟩ = some (.bool qa) := HBa1.out.cellAt (i := 11) rfl
  have za := HBa1.out.froz 11
  have HF2 : Hid (Fr [] w (w1.setCell ⟨p, 11, none⟩ (.bool true))) := HF1.out.setCell (.inr (by have := Hp.out; simp; omega)) _
  go_wp2_with fail
  generalize w1.setCell ⟨p, 11, none⟩ (.bool true) = w2 at *
  clear za HBa1 HF1 a0 a1 a2 a3 a4 a5 a6 a7 a8 a9 a10 a11
  refine (HMa.out _).mono ?_
  rintro x w3 ⟨rfl, f3⟩
  have HF3 := Lib.hid ((HF2.out.trans0 f3).alloc (.cells #[.int .u64 A.term, .int .u64 A.index, .int .i64 A.kind, .int .u64 A.client, .int .u64 A.seq, .int .u64 A.block, .int .u64 A.many, .int .i64 A.node, .int .i64 A.level, .string A.data, .string A.old] 24))
  have HXa3 := Lib.hid (Blk.new w3 #[.int .u64 A.term, .int .u64 A.index, .int .i64 A.kind, .int .u64 A.client, .int .u64 A.seq, .int .u64 A.block, .int .u64 A.many, .int .i64 A.node, .int .i64 A.level, .string A.data, .string A.old] 24)
  have Hpx : Hid (p ≤ w3.heap.size) := by have := (HF2.out.trans0 f3).size; have := Hp.out; show _ ≤ _; omega
  obtain ⟨w4, hw4⟩ : ∃ w4, w3.alloc (.cells #[.int .u64 A.term, .int .u64 A.index, .int .i64 A.kind, .int .u64 A.client, .int .u64 A.seq, .int .u64 A.block, .int .u64 A.many, .int .i64 A.node, .int .i64 A.level, .string A.data, .string A.old] 24) = w4 := ⟨_, rfl⟩
  obtain ⟨xa, hxa⟩ : ∃ xa, w3.heap.size = xa := ⟨_, rfl⟩
  rw [hw4] at HF3 HXa3
  rw [hxa] at HXa3 Hpx
  have a0 : w4.cell? ⟨xa, 0, none⟩ = some (.int .u64 A.term) := HXa3.out.cellAt (i := 0) rfl
  have a1 : w4.cell? ⟨xa, 1, none⟩ = some (.int .u64 A.index) := HXa3.out.cellAt (i := 1) rfl
  have a2 : w4.cell? ⟨xa, 2, none⟩ = some (.int .i64 A.kind) := HXa3.out.cellAt (i := 2) rfl
  have a3 : w4.cell? ⟨xa, 3, none⟩ = some (.int .u64 A.client) := HXa3.out.cellAt (i := 3) rfl
  have a4 : w4.cell? ⟨xa, 4, none⟩ = some (.int .u64 A.seq) := HXa3.out.cellAt (i := 4) rfl
  have a5 : w4.cell? ⟨xa, 5, none⟩ = some (.int .u64 A.block) := HXa3.out.cellAt (i := 5) rfl
  have a6 : w4.cell? ⟨xa, 6, none⟩ = some (.int .u64 A.many) := HXa3.out.cellAt (i := 6) rfl
  have a7 : w4.cell? ⟨xa, 7, none⟩ = some (.int .i64 A.node) := HXa3.out.cellAt (i := 7) rfl
  have a8 : w4.cell? ⟨xa, 8, none⟩ = some (.int .i64 A.level) := HXa3.out.cellAt (i := 8) rfl
  have a9 : w4.cell? ⟨xa, 9, none⟩ = some (.string A.data) := HXa3.out.cellAt (i := 9) rfl
  have a10 : w4.cell? ⟨xa, 10, none⟩ = some (.string A.old) := HXa3.out.cellAt (i := 10) rfl
  clear f3 HF2
  go_wp2_with fail
  clear hw4 hxa a0 a1 a2 a3 a4 a5 a6 a7 a8 a9 a10
  rcases (show A.lvl = 1 ∨ A.lvl = 2 by unfold Ent.lvl; split <;> simp) with hl | hl
  all_goals rw [hl] at HPa HLa
  case inr =>
    refine (HPa.out _).mono ?_
    rintro x w5 ⟨rfl, f5⟩
    have HX5 := Lib.hid (HXa3.out.fr0 f5)
    have HF5 := Lib.hid (HF3.out.trans0 f5)
    have a0 : w5.cell? ⟨xa, 0, none⟩ = some (.int .u64 A.term) := HX5.out.cellAt (i := 0) rfl
    have a1 : w5.cell? ⟨xa, 1, none⟩ = some (.int .u64 A.index) := HX5.out.cellAt (i := 1) rfl
    have a2 : w5.cell? ⟨xa, 2, none⟩ = some (.int .i64 A.kind) := HX5.out.cellAt (i := 2) rfl
    have a3 : w5.cell? ⟨xa, 3, none⟩ = some (.int .u64 A.client) := HX5.out.cellAt (i := 3) rfl
    have a4 : w5.cell? ⟨xa, 4, none⟩ = some (.int .u64 A.seq) := HX5.out.cellAt (i := 4) rfl
    have a5 : w5.cell? ⟨xa, 5, none⟩ = some (.int .u64 A.block) := HX5.out.cellAt (i := 5) rfl
    have a6 : w5.cell? ⟨xa, 6, none⟩ = some (.int .u64 A.many) := HX5.out.cellAt (i := 6) rfl
    have a7 : w5.cell? ⟨xa, 7, none⟩ = some (.int .i64 A.node) := HX5.out.cellAt (i := 7) rfl
    have a8 : w5.cell? ⟨xa, 8, none⟩ = some (.int .i64 A.level) := HX5.out.cellAt (i := 8) rfl
    have a9 : w5.cell? ⟨xa, 9, none⟩ = some (.string A.data) := HX5.out.cellAt (i := 9) rfl
    have a10 : w5.cell? ⟨xa, 10, none⟩ = some (.string A.old) := HX5.out.cellAt (i := 10) rfl
    clear f5
    go_wp2_with fail
    refine (HLa.out _).mono ?_
    rintro x w6 ⟨rfl, f6⟩
    go_wp2_with fail
    go_ret
    exact ⟨rfl, HF5.out.trans0 f6⟩
  have hl1 : A.lvl ≤ 1 := by omega
  have hpR : put5R A = put5 A := put5R_yes A HAo.out hl1
  have hlen := put5_length A (by omega)
  have HPg := Lib.hid (fun k x h1 h2 => pad_got A HAf.out HAo.out hl1 k x h1 h2)
  have HLg := Lib.hid (fun v hv => get5_none _ (put_long A hd v hv))
  have HSm := Lib.hid (fun k h1 h2 => put_same A hd k h1 h2)
  rw [hpR] at HPa
  obtain ⟨L, hL⟩ : ∃ L, put5 A = L := ⟨_, rfl⟩
  rw [hL] at HPa hlen HPg HLg HSm
  have hS : (bs L).size = 110 := by rw [bs_size]; exact hlen
  have HLen := Lib.hid hlen
  clear hL hpR hl1 hlen hl HLa
  obtain ⟨d, hdd⟩ : ∃ d, A.data.size = d := ⟨_, rfl⟩
  rw [hdd] at hd HPg HSm
  obtain ⟨qq, hqq⟩ : ∃ qq : Nat, 66 - d = qq := ⟨_, rfl⟩
  obtain ⟨r, hr, hrq⟩ := tmod_facts at_ qq hat.1 (by omega)
  have Hr := Lib.hid hr
  clear hr
  obtain ⟨kk, hkk⟩ : ∃ kk : Nat, 44 + d + r = kk := ⟨_, rfl⟩
  obtain ⟨⟨g1, g1', g2, g2'⟩, ⟨g3, g3', g4, g4'⟩, ⟨g5, g5', g6, g6'⟩, hk110, hkd⟩ := pad_nums d qq r kk at_ hd hqq hrq hkk hat.1 hat.2
  clear hqq hkk hrq
  refine (HPa.out _).mono ?_
  rintro x w5 ⟨rfl, f5⟩
  have HX5 := Lib.hid (HXa3.out.fr0 f5)
  have HF5 := Lib.hid (HF3.out.trans0 f5)
  have a9 : w5.cell? ⟨xa, 9, none⟩ = some (.string A.data) := HX5.out.cellAt (i := 9) rfl
  clear f5 HXa3 HF3 HPa HMa
  obtain ⟨S, hSS⟩ : ∃ S, bs L = S := ⟨_, rfl⟩
  rw [hSS] at hS ⊢
  have HSS := Lib.hid hSS
  clear hSS
  have hr := Hr.out
  go_wp2_with fail
  go_quiet (fail)
  clear hr g1 g1' g2 g2' g3 g3' g4 g4' g5 g5' g6 g6'
  have HX6 := Lib.hid (HX5.out.drewN nq)
  have HF6 := Lib.hid (HF5.out.drewN nq)
  clear HX5 HF5 a9
  obtain ⟨x1, hx1⟩ : ∃ x : UInt8, UInt8.ofNat by_.toNat = x := ⟨_, rfl⟩
  obtain ⟨v, hv, hv0, hv1⟩ : ∃ v : Int, 65 + by_ % 190 = v ∧ 65 ≤ v ∧ v ≤ 255 := ⟨_, rfl, by omega, by omega⟩
  have q1 : by_.tmod 190 = by_ % 190 := Int.tmod_eq_emod_of_nonneg hby.1
  have q2 : IntKind.u8.wrap (by_ % 190) = by_ % 190 := IntWalk.u8_in _ (by omega)
  have q3 : IntKind.u8.wrap (65 + by_ % 190) = v := by rw [IntWalk.u8_in _ (by omega), hv]
  have hkI : (kk : Int) < 110 := by omega
  have hG1 := HPg.out kk x1 hkd hk110
  have hS1 := HSm.out kk hkd (by have := HLen.out; omega)
  have hG2 := HLg.out (UInt8.ofNat v.toNat) (by simp; omega)
  obtain ⟨L1, hL1⟩ : ∃ L1, L.set kk x1 = L1 := ⟨_, rfl⟩
  have hL1n : L1.length = 110 := by rw [← hL1, List.length_set]; exact HLen.out
  have hL1s : L1.set kk 0 = L := by rw [← hL1, List.set_set]; exact hS1
  obtain ⟨L2, hL2⟩ : ∃ L2, L.set 43 (UInt8.ofNat v.toNat) = L2 := ⟨_, rfl⟩
  have hL2n : L2.length = 110 := by rw [← hL2, List.length_set]; exact HLen.out
  rw [hL1] at hG1
  rw [hL2, hL2n] at hG2
  obtain ⟨X1, P1, bz, hget, hbz, hbn, hpk, hXA⟩ : ∃ (X1 : Ent) (P1 : Nat) (bz : Bool), get5 L1 0 = (X1, P1) ∧ (by_ == 0) = bz ∧ (by_ != 0) = !bz ∧ decide (P1 ≤ L1.length) = bz ∧ (bz = true → X1 = A) := by
    by_cases h0 : by_ = 0
    · subst h0
      have hx : x1 = 0 := by rw [← hx1]; rfl
      rw [if_pos hx] at hG1
      exact ⟨A, 110, true, hG1, rfl, rfl, by rw [hL1n]; rfl, fun _ => rfl⟩
    · have hx : x1 ≠ 0 := by
        intro h
        have h2 := congrArg UInt8.toNat (hx1.trans h)
        simp at h2
        omega
      rw [if_neg hx] at hG1
      exact ⟨ent0, 111, false, hG1, by simpa using h0, by simpa using h0, by rw [hL1n]; rfl, fun h => by cases h⟩
  have HGp := Lib.hid (fun r w (h : RdAt w r L1 0) => pGet r L1 0 w h)
  rw [hget] at HGp
  have HGq := Lib.hid (fun r w (h : RdAt w r L2 0) => pGet r L2 0 w h)
  rw [hG2] at HGq
  have HEq := Lib.hid (eqlEnt A)
  unfold ent0 at HGq
  unfold Ent.cells at HGp HGq HEq
  have HL1 := Lib.hid hL1
  have HL1n := Lib.hid hL1n
  have HL1s := Lib.hid hL1s
  have HL2 := Lib.hid hL2
  have HL2n := Lib.hid hL2n
  have Hx1 := Lib.hid hx1
  have Hpk := Lib.hid hpk
  have HXA := Lib.hid hXA
  have Hv := Lib.hid (show 0 ≤ v ∧ v ≤ 255 by omega)
  clear hG1 hS1 hG2 hL1 hL1n hL1s hL2 hL2n hget hv hpk hXA hx1 hv0
  generalize w5.drewN nq = w6 at *
  go_wp2_with (refine wpList_bytes 9 43 5 _ Tryd.underlying9 Tryd.underlying43 Tryd.underlying5 _ rfl ?_; intro g cap w7 hg hB hF; have HBt : Hid (Bts w7 g L) := Bts.of (by have h := hB.out; rw [← HSS.out] at h; exact h); have ck := HBt.out.cell kk (by have := HLen.out; omega); have fk := HBt.out.froz kk (by have := HLen.out; omega); have HX7 := Lib.hid (HX6.out.fr0 hF.out); have HF7 := Lib.hid (HF6.out.trans0 hF.out); have Hgb : Hid (xa < g) := (by have h1 := HX6.out.lt; have h2 := hg.out; show _ < _; omega); have Hgw : Hid (w.heap.size ≤ g) := (by have h1 := HF6.out.size; have h2 := hg.out; show _ ≤ _; omega); have hcv : (convert 43 9 (.slice (some ⟨g, 0, none⟩) 110 cap)).run Tryd.prog (w7.setCell ⟨g, kk, none⟩ (.int .u8 by_)) = .ok (.string (bs L1)) (w7.setCell ⟨g, kk, none⟩ (.int .u8 by_)) := (by have h := (HBt.out.set kk by_ hby.1 hby.2).str cap; rw [Hx1.out, HL1.out, HL1n.out] at h; exact h))
  have HB8 : Hid (Bts (w7.setCell ⟨g, kk, none⟩ (.int .u8 by_)) g L1) := by have h := HBt.out.set kk by_ hby.1 hby.2; rw [Hx1.out, HL1.out] at h; exact h
  have Hs8 : Hid (Fr [g] w7 (w7.setCell ⟨g, kk, none⟩ (.int .u8 by_))) := (Fr.refl [g] w7).setCell (.inl (by simp)) _
  have HX8 := Lib.hid (HX7.out.fr Hs8.out (by have := Hgb.out; simp; omega))
  have HF8 : Hid (Fr [] w (w7.setCell ⟨g, kk, none⟩ (.int .u8 by_))) := HF7.out.trans Hs8.out (fun x hx => by simp at hx; subst hx; right; exact Hgw.out)
  clear hg hB hF ck fk hcv HBt HX7 HF7 HX6 HF6 Hs8
  generalize w7.setCell ⟨g, kk, none⟩ (.int .u8 by_) = w8 at *
  refine (vNew (bs L1) _).mono ?_
  rintro x w9 ⟨rfl, h9, f9⟩
  have HR9 : Hid (RdAt w9 w8.heap.size L1 0) := RdAt.start h9
  have HB9 := Lib.hid (HB8.out.fr f9 (by simp))
  have HX9 := Lib.hid (HX8.out.fr0 f9)
  have HF9 := Lib.hid (HF8.out.trans0 f9)
  have Hrg : Hid (g < w8.heap.size) := HB8.out.lt
  clear h9 f9 HB8 HX8 HF8
  generalize w8.heap.size = r1 at *
  go_wp2_with fail
  refine (HGp.out r1 _ HR9.out).mono ?_
  rintro x wa ⟨rfl, ha, fa⟩
  have HRa := Lib.hid (ha.alloc (.cells #[.int .u64 X1.term, .int .u64 X1.index, .int .i64 X1.kind, .int .u64 X1.client, .int .u64 X1.seq, .int .u64 X1.block, .int .u64 X1.many, .int .i64 X1.node, .int .i64 X1.level, .string X1.data, .string X1.old] 24))
  have HBa := Lib.hid ((HB9.out.fr fa (by have := Hrg.out; simp; omega)).fr ((Fr.refl [] wa).alloc (.cells #[.int .u64 X1.term, .int .u64 X1.index, .int .i64 X1.kind, .int .u64 X1.client, .int .u64 X1.seq, .int .u64 X1.block, .int .u64 X1.many, .int .i64 X1.node, .int .i64 X1.level, .string X1.data, .string X1.old] 24)) (by simp))
  have HXa := Lib.hid ((HX9.out.fr fa (by have := Hrg.out; have := Hgb.out; simp; omega)).alloc (.cells #[.int .u64 X1.term, .int .u64 X1.index, .int .i64 X1.kind, .int .u64 X1.client, .int .u64 X1.seq, .int .u64 X1.block, .int .u64 X1.many, .int .i64 X1.node, .int .i64 X1.level, .string X1.data, .string X1.old] 24))
  have HFa : Hid (Fr [] w (wa.alloc (.cells #[.int .u64 X1.term, .int .u64 X1.index, .int .i64 X1.kind, .int .u64 X1.client, .int .u64 X1.seq, .int .u64 X1.block, .int .u64 X1.many, .int .i64 X1.node, .int .i64 X1.level, .string X1.data, .string X1.old] 24))) := (HF9.out.trans fa (fun x hx => by simp at hx; subst hx; right; have := Hgw.out; have := Hrg.out; omega)).alloc _
  have HYa := Lib.hid (Blk.new wa #[.int .u64 X1.term, .int .u64 X1.index, .int .i64 X1.kind, .int .u64 X1.client, .int .u64 X1.seq, .int .u64 X1.block, .int .u64 X1.many, .int .i64 X1.node, .int .i64 X1.level, .string X1.data, .string X1.old] 24)
  have Hyb : Hid (r1 < wa.heap.size) := ha.lt
  obtain ⟨wb, hwb⟩ : ∃ wb, wa.alloc (.cells #[.int .u64 X1.term, .int .u64 X1.index, .int .i64 X1.kind, .int .u64 X1.client, .int .u64 X1.seq, .int .u64 X1.block, .int .u64 X1.many, .int .i64 X1.node, .int .i64 X1.level, .string X1.data, .string X1.old] 24) = wb := ⟨_, rfl⟩
  obtain ⟨yb, hyb⟩ : ∃ yb, wa.heap.size = yb := ⟨_, rfl⟩
  rw [hwb] at HRa HBa HXa HFa HYa
  rw [hyb] at HYa Hyb
  clear ha fa HR9 HB9 HX9 HF9
  have ck := HBa.out.cell kk (by have := HL1n.out; omega)
  have fk := HBa.out.froz kk (by have := HL1n.out; omega)
  have HBb : Hid (Bts (wb.setCell ⟨g, kk, none⟩ (.int .u8 0)) g L) := by have h := HBa.out.set kk 0 (by decide) (by decide); rw [show UInt8.ofNat (0 : Int).toNat = 0 from rfl, HL1s.out] at h; exact h
  have ck2 := HBb.out.cell 43 (by have := HLen.out; omega)
  have fk2 := HBb.out.froz 43 (by have := HLen.out; omega)
  have HBc : Hid (Bts ((wb.setCell ⟨g, kk, none⟩ (.int .u8 0)).setCell ⟨g, 43, none⟩ (.int .u8 v)) g L2) := by have h := HBb.out.set 43 v Hv.out.1 Hv.out.2; rw [HL2.out] at h; exact h
  have hcv : (convert 43 9 (.slice (some ⟨g, 0, none⟩) 110 cap)).run Tryd.prog ((wb.setCell ⟨g, kk, none⟩ (.int .u8 0)).setCell ⟨g, 43, none⟩ (.int .u8 v)) = .ok (.string (bs L2)) ((wb.setCell ⟨g, kk, none⟩ (.int .u8 0)).setCell ⟨g, 43, none⟩ (.int .u8 v)) := by
    have h := HBc.out.str cap
    rw [HL2n.out] at h
    exact h
  have Hsc : Hid (Fr [g] wb ((wb.setCell ⟨g, kk, none⟩ (.int .u8 0)).setCell ⟨g, 43, none⟩ (.int .u8 v))) := ((Fr.refl [g] wb).setCell (.inl (by simp)) _).setCell (.inl (by simp)) _
  have HRc := Lib.hid (HRa.out.fr Hsc.out (by have := Hrg.out; simp; omega))
  have HXc := Lib.hid (HXa.out.fr Hsc.out (by have := Hgb.out; simp; omega))
  have HYc := Lib.hid (HYa.out.fr Hsc.out (by have := Hyb.out; have := Hrg.out; simp; omega))
  have HFc : Hid (Fr [] w ((wb.setCell ⟨g, kk, none⟩ (.int .u8 0)).setCell ⟨g, 43, none⟩ (.int .u8 v))) := HFa.out.trans Hsc.out (fun x hx => by simp at hx; subst hx; right; exact Hgw.out)
  clear Hsc HRa HBa HXa HFa HYa HBb
  go_wp2_with fail
  clear ck fk ck2 fk2 hcv hwb hyb
  generalize (wb.setCell ⟨g, kk, none⟩ (.int .u8 0)).setCell ⟨g, 43, none⟩ (.int .u8 v) = wc at *
  refine (vNew (bs L2) _).mono ?_
  rintro x wd ⟨rfl, hd9, fd⟩
  have HZd : Hid (RdAt wd wc.heap.size L2 0) := RdAt.start hd9
  have HRd := Lib.hid (HRc.out.fr fd (by simp))
  have HXd := Lib.hid (HXc.out.fr0 fd)
  have HYd := Lib.hid (HYc.out.fr0 fd)
  have HFd := Lib.hid (HFc.out.trans0 fd)
  have Hzc : Hid (r1 < wc.heap.size ∧ yb < wc.heap.size ∧ xa < wc.heap.size ∧ g < wc.heap.size) := ⟨HRc.out.lt, HYc.out.lt, HXc.out.lt, HBc.out.lt⟩
  clear hd9 fd HRc HXc HYc HFc HBc
  generalize wc.heap.size = z1 at *
  go_wp2_with fail
  refine (HGq.out z1 _ HZd.out).mono ?_
  rintro x we ⟨rfl, he9, fe⟩
  have HZe := Lib.hid he9
  have HRe := Lib.hid (HRd.out.fr fe (by have := Hzc.out; simp; omega))
  have HXe := Lib.hid (HXd.out.fr fe (by have := Hzc.out; simp; omega))
  have HYe := Lib.hid (HYd.out.fr fe (by have := Hzc.out; simp; omega))
  have HFe : Hid (Fr [] w we) := HFd.out.trans fe (fun x hx => by simp at hx; subst hx; right; have := Hgw.out; have := Hzc.out; omega)
  clear he9 fe HZd HRd HXd HYd HFd
  have HOk := Lib.hid (vOKAt r1 L1 P1 we HRe.out)
  rw [Hpk.out] at HOk
  have HOz := Lib.hid (vOKAt z1 L2 111 we HZe.out)
  rw [HL2n.out] at HOz
  have heq : ∀ w, (binOp .eql 24 (.agg #[.int .u64 A.term, .int .u64 A.index, .int .i64 A.kind, .int .u64 A.client, .int .u64 A.seq, .int .u64 A.block, .int .u64 A.many, .int .i64 A.node, .int .i64 A.level, .string A.data, .string A.old]) (.agg #[.int .u64 A.term, .int .u64 A.index, .int .i64 A.kind, .int .u64 A.client, .int .u64 A.seq, .int .u64 A.block, .int .u64 A.many, .int .i64 A.node, .int .i64 A.level, .string A.data, .string A.old])).run Tryd.prog w = .ok (.bool true) w := HEq.out
  have hgd := guardEnt
  have a0 : we.cell? ⟨xa, 0, none⟩ = some (.int .u64 A.term) := HXe.out.cellAt (i := 0) rfl
  have a1 : we.cell? ⟨xa, 1, none⟩ = some (.int .u64 A.index) := HXe.out.cellAt (i := 1) rfl
  have a2 : we.cell? ⟨xa, 2, none⟩ = some (.int .i64 A.kind) := HXe.out.cellAt (i := 2) rfl
  have a3 : we.cell? ⟨xa, 3, none⟩ = some (.int .u64 A.client) := HXe.out.cellAt (i := 3) rfl
  have a4 : we.cell? ⟨xa, 4, none⟩ = some (.int .u64 A.seq) := HXe.out.cellAt (i := 4) rfl
  have a5 : we.cell? ⟨xa, 5, none⟩ = some (.int .u64 A.block) := HXe.out.cellAt (i := 5) rfl
  have a6 : we.cell? ⟨xa, 6, none⟩ = some (.int .u64 A.many) := HXe.out.cellAt (i := 6) rfl
  have a7 : we.cell? ⟨xa, 7, none⟩ = some (.int .i64 A.node) := HXe.out.cellAt (i := 7) rfl
  have a8 : we.cell? ⟨xa, 8, none⟩ = some (.int .i64 A.level) := HXe.out.cellAt (i := 8) rfl
  have a9 : we.cell? ⟨xa, 9, none⟩ = some (.string A.data) := HXe.out.cellAt (i := 9) rfl
  have a10 : we.cell? ⟨xa, 10, none⟩ = some (.string A.old) := HXe.out.cellAt (i := 10) rfl
  cases bz with
  | true =>
    obtain rfl : X1 = A := HXA.out rfl
    have b0 : we.cell? ⟨yb, 0, none⟩ = some (.int .u64 X1.term) := HYe.out.cellAt (i := 0) rfl
    have b1 : we.cell? ⟨yb, 1, none⟩ = some (.int .u64 X1.index) := HYe.out.cellAt (i := 1) rfl
    have b2 : we.cell? ⟨yb, 2, none⟩ = some (.int .i64 X1.kind) := HYe.out.cellAt (i := 2) rfl
    have b3 : we.cell? ⟨yb, 3, none⟩ = some (.int .u64 X1.client) := HYe.out.cellAt (i := 3) rfl
    have b4 : we.cell? ⟨yb, 4, none⟩ = some (.int .u64 X1.seq) := HYe.out.cellAt (i := 4) rfl
    have b5 : we.cell? ⟨yb, 5, none⟩ = some (.int .u64 X1.block) := HYe.out.cellAt (i := 5) rfl
    have b6 : we.cell? ⟨yb, 6, none⟩ = some (.int .u64 X1.many) := HYe.out.cellAt (i := 6) rfl
    have b7 : we.cell? ⟨yb, 7, none⟩ = some (.int .i64 X1.node) := HYe.out.cellAt (i := 7) rfl
    have b8 : we.cell? ⟨yb, 8, none⟩ = some (.int .i64 X1.level) := HYe.out.cellAt (i := 8) rfl
    have b9 : we.cell? ⟨yb, 9, none⟩ = some (.string X1.data) := HYe.out.cellAt (i := 9) rfl
    have b10 : we.cell? ⟨yb, 10, none⟩ = some (.string X1.old) := HYe.out.cellAt (i := 10) rfl
    go_wp2_with fail
    refine (HOk.out).mono ?_
    rintro x wf ⟨rfl, rfl⟩
    go_wp2_with fail
    refine (HOz.out).mono ?_
    rintro x wf ⟨rfl, rfl⟩
    go_wp2_with fail
    go_ret
    exact ⟨rfl, HFe.out⟩
  | false =>
    go_wp2_with fail
    refine (HOk.out).mono ?_
    rintro x wf ⟨rfl, rfl⟩
    go_wp2_with fail
    refine (HOz.out).mono ?_
    rintro x wf ⟨rfl, rfl⟩
    go_wp2_with fail
    go_ret
    exact ⟨rfl, HFe.out⟩
end Go.Proofs.YthfaaoeecajkeaaDoor.firstPads
