/-
  slices.Repeat of one int: the contract.
-/
import Derived.Test.YtnnpjjehecbljaaDoorLMem
import Derived.Test.YtnnpjjehecbljaaDoorFShelf
import Derived.Shelf.Spec.SlicesInsert
import Derived.KernelRfl
namespace Go.Proofs.YtnnpjjehecbljaaDoor
open Go.RowKit Go.Lib

theorem Tryd.elI : ElT Tryd.prog 23 3 (.int .i64 0) 1 8 := ElT.mk' Tryd.underlying23 (by kernel_rfl) rfl (by decide)
theorem Tryd.szI : (Tryd.prog.info? 3).map (·.size) = some 1 := by kernel_rfl
theorem Blk.setCells {r : Nat} {t : TypeId} : ∀ (vs : List Value) (o : Nat) (w : World) (L : List Value), Blk w r L.toArray t → o + vs.length ≤ L.length → Blk (w.setCells r o vs) r (L.take o ++ vs ++ L.drop (o + vs.length)).toArray t
  | [], o, w, L, h, _ => by
    rw [World.setCells]
    simpa using h
  | v :: vs, o, w, L, h, hl => by
    rw [World.setCells]
    have hl' : o + 1 + vs.length ≤ L.length := by simp at hl; omega
    have h1 := Blk.setCells vs (o + 1) (w.setCell ⟨r, o, none⟩ v) (L.set o v) (by have := h.set o v; simpa using this) (by simpa using hl')
    have e : (L.set o v).take (o + 1) ++ vs ++ (L.set o v).drop (o + 1 + vs.length) = L.take o ++ (v :: vs) ++ L.drop (o + (v :: vs).length) := by
      rw [List.take_set, List.drop_set_of_lt (by omega), List.take_succ_eq_append_getElem (by omega)]
      rw [List.set_append_right _ _ (by rw [List.length_take]; omega)]
      have : o - (L.take o).length = 0 := by rw [List.length_take]; omega
      rw [this]
      simp
      congr 1
      omega
    rwa [e] at h1
theorem Fr.setCells {S : List Nat} {a : World} {r : Nat} (hr : r ∈ S ∨ a.heap.size ≤ r) : ∀ (vs : List Value) (o : Nat) (w : World), Fr S a w → Fr S a (w.setCells r o vs)
  | [], _, _, h => h
  | v :: vs, o, w, h => by
    rw [World.setCells]
    exact Fr.setCells hr vs (o + 1) _ (h.setCell (p := ⟨r, o, none⟩) hr v)
/-- Ones ahead, zeros behind. -/
def onesL (n k : Nat) : List Value := List.replicate k (.int .i64 1) ++ List.replicate (n - k) (.int .i64 0)
theorem onesL_length {n k : Nat} (h : k ≤ n) : (onesL n k).length = n := by
  unfold onesL
  rw [List.length_append, List.length_replicate, List.length_replicate]
  omega
theorem onesL_put {n k m : Nat} (h : k + m ≤ n) : (onesL n k).take k ++ List.replicate m (.int .i64 1) ++ (onesL n k).drop (k + m) = onesL n (k + m) := by
  unfold onesL
  rw [List.take_append, List.length_replicate, Nat.sub_self, List.take_zero, List.append_nil, List.take_of_length_le (by rw [List.length_replicate]; exact Nat.le_refl _), List.drop_append, List.length_replicate,
    List.drop_of_length_le (by rw [List.length_replicate]; omega), List.nil_append, List.drop_replicate, List.replicate_append_replicate]
  congr 2
  omega
theorem onesL_get {n k j : Nat} (h : j < k) : (onesL n k)[j]? = some (.int .i64 1) := by
  unfold onesL
  rw [List.getElem?_append_left (by rw [List.length_replicate]; exact h), List.getElem?_replicate, if_pos h]

theorem copyOnes (w : World) (ty : TypeId) (b o dl dc sb so sl sc m : Nat) (hm : m = Nat.min sl dl) (hs : ∀ j, j < m → w.cell? ⟨sb, so + j, none⟩ = some (.int .i64 1)) (hc : ∀ j, j < m → (w.cell? ⟨b, o + j, none⟩).isSome = true) (hf : ∀ j, w.frozen? ⟨b, j, none⟩ = false) :
    (Builtin.copy_ #[23, 23] ty #[.slice (some ⟨b, o, none⟩) dl dc, .slice (some ⟨sb, so, none⟩) sl sc]).run Tryd.prog w = .ok (.int .i64 (m : Nat)) (w.setCells b o (List.replicate m (.int .i64 1))) := by
  have h := run_copy_cells (P := Tryd.prog) w 23 23 ty 3 b o dl dc ⟨sb, so, none⟩ sl sc (List.replicate m (.int .i64 1)) Tryd.underlying23 Tryd.szI (by rw [List.length_replicate]; exact hm)
    (fun j v hj => by
      rw [List.getElem?_replicate] at hj
      split at hj
      · rename_i hjm
        cases hj
        rw [Addr.add_lit]
        exact hs j hjm
      · cases hj)
    (fun j hj => by rw [List.length_replicate] at hj; exact hc j hj) (fun j _ => hf _) (fun v hv => by rw [List.eq_of_mem_replicate hv]; rfl)
  rw [List.length_replicate] at h
  exact h

theorem repFirst {w w1 : World} {bx cx g n : Nat} (h1 : 1 ≤ n) (hx : w.cell? ⟨bx, 0, none⟩ = some (.int .i64 1)) (hbl : bx < w.heap.size) (HG : Hid (g = w.heap.size)) (HB : Hid (Blk w1 g (Array.replicate n (.int .i64 0)) 3)) (HF : Hid (Fr [] w w1)) :
    (∀ ty, (Builtin.copy_ #[23, 23] ty #[.slice (some ⟨g, 0, none⟩) n n, .slice (some ⟨bx, 0, none⟩) 1 cx]).run Tryd.prog w1 = .ok (.int .i64 1) (w1.setCells g 0 [.int .i64 1])) ∧
    Hid (Blk (w1.setCells g 0 [.int .i64 1]) g (onesL n 1).toArray 3) ∧ Hid (Fr [] w (w1.setCells g 0 [.int .i64 1])) := by
  have HB0 : Hid (Blk w1 g (onesL n 0).toArray 3) := by
    have e : (onesL n 0).toArray = Array.replicate n (.int .i64 0) := by unfold onesL; simp
    rw [e]
    exact HB
  have hg0 := HG.out
  have hxg : w1.cell? ⟨bx, 0, none⟩ = some (.int .i64 1) := by
    have h9 := HF.out.block bx hbl (by simp)
    simp only [World.cell?] at hx ⊢
    rw [h9]
    exact hx
  refine ⟨?_, ?_, ?_⟩
  · intro ty
    refine copyOnes w1 ty g 0 n n bx 0 1 cx 1 ?_ ?_ ?_ HB0.out.froz
    · show 1 = min 1 n
      omega
    · intro j hj
      have : j = 0 := by omega
      subst this
      exact hxg
    · intro j hj
      have : j = 0 := by omega
      subst this
      rw [HB0.out.cell, List.getElem?_toArray, List.getElem?_eq_getElem (by rw [onesL_length (by omega)]; omega)]
      rfl
  · have h7 := Blk.setCells (List.replicate 1 (.int .i64 1)) 0 w1 (onesL n 0) HB0.out (by rw [onesL_length (by omega)]; simp; omega)
    rw [List.length_replicate, onesL_put (by omega), Nat.zero_add] at h7
    exact h7
  · exact Fr.setCells (Or.inr (by omega)) _ _ _ HF.out
theorem repNext {wr : World} {g n k : Nat} (hk : k < n) (HB : Hid (Blk wr g (onesL n k).toArray 3)) :
    (∀ ty, (Builtin.copy_ #[23, 23] ty #[.slice (some ⟨g, k, none⟩) (n - k) (n - k), .slice (some ⟨g, 0, none⟩) k n]).run Tryd.prog wr.drew = .ok (.int .i64 ((min k (n - k) : Nat) : Int)) (wr.drew.setCells g k (List.replicate (min k (n - k)) (.int .i64 1)))) ∧
    Hid (Blk (wr.drew.setCells g k (List.replicate (min k (n - k)) (.int .i64 1))) g (onesL n (k + min k (n - k))).toArray 3) := by
  have HB' : Blk wr.drew g (onesL n k).toArray 3 := HB.out.drew
  refine ⟨?_, ?_⟩
  · intro ty
    refine copyOnes wr.drew ty g k (n - k) (n - k) g 0 k n (min k (n - k)) rfl ?_ ?_ HB'.froz
    · intro j hj
      rw [HB'.cell, List.getElem?_toArray, Nat.zero_add]
      exact onesL_get (by omega)
    · intro j hj
      rw [HB'.cell, List.getElem?_toArray, List.getElem?_eq_getElem (by rw [onesL_length (by omega)]; omega)]
      rfl
  · have h7 := Blk.setCells (List.replicate (min k (n - k)) (.int .i64 1)) k wr.drew (onesL n k) HB' (by rw [onesL_length (by omega)]; simp; omega)
    rw [List.length_replicate, onesL_put (by omega)] at h7
    exact h7

set_option maxHeartbeats 4000000 in
set_option maxRecDepth 100000 in
theorem sRepeat (bx cx n : Nat) (w : World) (hx : w.cell? ⟨bx, 0, none⟩ = some (.int .i64 1)) (h1 : 1 ≤ n) (h4 : n ≤ 4096) :
    Calls Tryd.prog 16 #[.slice (some ⟨bx, 0, none⟩) 1 cx, .int .i64 (n : Nat)] w fun e w' => ∃ g cap, e = .returned (.slice (some ⟨g, 0, none⟩) n cap) ∧ w.heap.size ≤ g ∧ Iv w' g cap (List.replicate n 1) ∧ Fr [] w w' := by
  have mixed : Tryd.prog.follows Departure.mixedOrders = true := by kernel_rfl
  have HX := Lib.hid hx
  have hbl : bx < w.heap.size := block_lt_of_cell hx
  have hw1 : IntKind.u64.wrap (n : Int) = (n : Int) := by rw [IntKind.wrap_u64]; omega
  have hw2 : IntKind.i64.wrap (n : Int) = (n : Int) := by rw [IntKind.wrap_i64]; omega
  have HM := Lib.hid (Tryd.bits_Mul 1 n (by decide) (by omega) w)
  rw [Nat.one_mul, Nat.div_eq_of_lt (by omega), Nat.mod_eq_of_lt (by omega)] at HM
  go_enter Tryd.func16, Tryd.ntmps16
  go_wp2_with (first
    | (go_at_call 33; refine HM.out.mono ?_; rintro e w' ⟨rfl, rfl⟩)
    | (refine wpList_makeN Tryd.elI rfl _ _ n _ _ rfl rfl (by omega) (by unfold maxLen; omega) ?_; intro g w1 HG HB HF; obtain ⟨HC, HB1, HF1⟩ := repFirst (cx := cx) h1 HX.out hbl HG HB HF)
    | (at_builtin; refine wpList_copy_runI _ rfl _ _ 23 23 rfl _ _ rfl rfl (HC _) ?_))
  all_goals
    generalize w1.setCells g 0 [.int .i64 1] = w2 at *
    go_loopw [8] (fun v wr => ∃ k : Nat, 1 ≤ k ∧ k ≤ n ∧ v = .int .i64 k ∧ Hid (Blk wr g (onesL n k).toArray 3) ∧ Hid (Fr [] w' wr)) (fun v _ => n - (intOf v).toNat)
    case atStart => exact ⟨1, Nat.le_refl 1, h1, rfl, HB1, HF1⟩
    case round =>
      obtain ⟨k, hk1, hkn, rfl, B, F⟩ := hrel
      by_cases hlt : k < n
      · obtain ⟨HC2, B2⟩ := repNext (wr := wr) (g := g) hlt B
        have hm1 : 1 ≤ min k (n - k) := by omega
        have hm2 : k + min k (n - k) ≤ n := by omega
        generalize min k (n - k) = m at *
        have F2 : Hid (Fr [] w' (wr.drew.setCells g k (List.replicate m (.int .i64 1)))) := Fr.setCells (Or.inr (by have := HG.out; omega)) _ _ _ F.out.drew
        have hkm : IntKind.i64.wrap ((k : Int) + (m : Int)) = ((k + m : Nat) : Int) := by rw [IntKind.wrap_i64]; omega
        have hz1 : ¬ n = k := by omega
        have hz2 : (k : Int) ≤ (n : Int) := by omega
        have hz3 : (0 : Int) ≤ (k : Int) := by omega
        have hz4 : (k : Int) < (n : Int) := by omega
        clear HM B
        go_wp2_with fail
        go_region_law_o (refine step_copy_runI rfl _ _ 23 23 rfl (.slice (some ⟨g, k, none⟩) (n - k) (n - k)) (.slice (some ⟨g, 0, none⟩) k n) (by simp [Act.eval, Act.put]) (by simp [Act.eval, Act.put]) (HC2 _) ?_)
        simp [Act.put]
        go_wp2_with fail
        go_roundw
        case rel => exact ⟨k + m, by omega, hm2, by first | rfl | (rw [hkm]) | simp, B2, F2⟩
        case measure => simp [intOf]; omega
      · obtain rfl : k = n := by omega
        go_wp2_with fail
        go_ret
        refine ⟨g, k, rfl, Nat.le_of_eq HG.out.symm, ⟨_, B.out, by rw [List.length_replicate]; exact Nat.le_refl _, by unfold maxLen; omega, ?_, ?_⟩, F.out⟩
        · show (onesL k k).length = k
          exact onesL_length (Nat.le_refl _)
        · unfold onesL
          simp
end Go.Proofs.YtnnpjjehecbljaaDoor
