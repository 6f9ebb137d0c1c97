/-
  slices.Insert of one int: the contract.
-/
import Derived.Test.YtnnpjjehecbljaaDoorLMem
import Derived.Test.YtnnpjjehecbljaaDoorLKeep
import Derived.Test.YtnnpjjehecbljaaDoorLRep
import Derived.Test.YtnnpjjehecbljaaDoorSep
import Derived.Shelf.Spec.SlicesInsert
import Derived.Shelf.Spec.SlicesInsertGrow
namespace Go.Proofs.YtnnpjjehecbljaaDoor
open Go.RowKit Go.Shelf

def lays2n21_ren : Go.Shelf.Ren := ⟨fun | 21 => 40 | 27 => 57 | 28 => 58 | 35 => 75 | 39 => 88 | n => n, fun | 0 => 0 | 3 => 3 | 4 => 4 | 22 => 23 | n => n, fun | n => n⟩
theorem lays2n21 : Go.Proofs.Lays2.n21 Tryd.prog lays2n21_ren := {
  mixed := by kernel_rfl
  f21 := Tryd.func40.trans (congrArg some (by kernel_rfl))
  f27 := Tryd.func57.trans (congrArg some (by kernel_rfl))
  f28 := Tryd.func58.trans (congrArg some (by kernel_rfl))
  f35 := Tryd.func75.trans (congrArg some (by kernel_rfl))
  f39 := Tryd.func88.trans (congrArg some (by kernel_rfl))
  t0 := Tryd.underlying0
  a0 := Tryd.isAgg0
  z0 := Tryd.sizeOf0
  v0 := Tryd.zeroValue0
  t3 := Tryd.underlying3
  a3 := Tryd.isAgg3
  z3 := Tryd.sizeOf3
  v3 := Tryd.zeroValue3
  t4 := Tryd.underlying4
  a4 := Tryd.isAgg4
  z4 := Tryd.sizeOf4
  v4 := Tryd.zeroValue4
  t22 := Tryd.underlying23
  a22 := Tryd.isAgg23
  z22 := Tryd.sizeOf23
  v22 := Tryd.zeroValue23
  i3 := by kernel_rfl }

theorem Iv.csOf {w : World} {g cap : Nat} {l : List Int} (h : Iv w g cap l) : ∀ j v, (l.map (Value.int .i64))[j]? = some v → w.cell? ⟨g, 0 + j, none⟩ = some v := by
  intro j v hv
  rw [List.getElem?_map] at hv
  cases hj : l[j]? with
  | none => rw [hj] at hv; cases hv
  | some x =>
    rw [hj] at hv
    have hlt : j < l.length := by
      rcases Nat.lt_or_ge j l.length with h1 | h1
      · exact h1
      · rw [List.getElem?_eq_none h1] at hj; cases hj
    rw [h.cell j hlt, List.getD_eq_getElem?_getD, hj]
    exact hv
theorem one_map (l : List Int) : ∀ v ∈ l.map (Value.int .i64), v.oneCell' = true := by
  intro v hv
  rw [List.mem_map] at hv
  obtain ⟨x, -, rfl⟩ := hv
  rfl
theorem map_insL (l : List Int) (p : Nat) (x : Int) : (l.map (Value.int .i64)).take p ++ [Value.int .i64 x] ++ (l.map (Value.int .i64)).drop p = (insL l p x).map (Value.int .i64) := by
  unfold insL
  simp
theorem Blk.shape {w : World} {r : Nat} {cs : Array Value} {t : TypeId} (h : Blk w r cs t) : w.shape? r = some (t, cs.size) := by
  unfold Blk at h
  simp [World.shape?, h]

theorem grown_bd (w : World) (need old : Nat) (e : TypeId) (h : need < 9223372036854775807) : need ≤ grownCap w need old e ∧ grownCap w need old e ≤ maxLen := by
  unfold grownCap Question.cut maxLen
  simp only
  have := Nat.mod_lt (w.tape w.drawn (.appendCap need old e)) (show 0 < 2 ^ 63 - need by omega)
  omega

theorem sInsert (g cap p : Nat) (l : List Int) (x : Int) (vb vc : Nat) (w : World) (h : Iv w g cap l) (hl : l.length ≤ 4096) (hp : p ≤ l.length) (hv : Blk w vb #[.int .i64 x] 3) (hvb : vb ≠ g) (n : Nat) (hn : n = l.length) :
    Calls Tryd.prog 40 #[.slice (some ⟨g, 0, none⟩) n cap, .int .i64 (p : Nat), .slice (some ⟨vb, 0, none⟩) 1 vc] w fun e w' => ∃ g' cap', e = .returned (.slice (some ⟨g', 0, none⟩) (l.length + 1) cap') ∧ (g' = g ∨ w.heap.size ≤ g') ∧ Iv w' g' cap' (insL l p x) ∧ Fr [g] w w' := by
  subst hn
  have hvs : ∀ (j : Nat) (v : Value), [Value.int .i64 x][j]? = some v → w.cell? ⟨vb, 0 + j, none⟩ = some v := by
    intro j v hj
    rw [hv.cell, Nat.zero_add]
    cases j with
    | zero => exact hj
    | succ j => simp at hj
  have h1v : ∀ v ∈ [Value.int .i64 x], v.oneCell' = true := by intro v hv; simp at hv; subst hv; rfl
  have hlen : (l.map (Value.int .i64)).length = l.length := List.length_map _
  have hle := h.le
  unfold maxLen at hle
  by_cases hroom : l.length + 1 ≤ cap
  · obtain ⟨cur, hb, h2, h3, h4, h5⟩ := h
    have hI : Iv w g cap l := ⟨cur, hb, h2, h3, h4, h5⟩
    have hsp : ∀ j, j < l.length + 1 → (w.cell? ⟨g, 0 + j, none⟩).isSome = true := by
      intro j hj
      rw [hb.cell, Nat.zero_add, Array.getElem?_eq_getElem (by omega)]
      rfl
    -- what stands behind it, in whichever of the two ways
    have hend : ∀ (w1 : World) (L : List Value), Blk w1 g L.toArray 3 → L.length = cap → L.take (l.length + 1) = (insL l p x).map (Value.int .i64) → Iv w1 g cap (insL l p x) := by
      intro w1 L hb1 hL ht
      have hil := insL_length l p x
      refine ⟨L.toArray, hb1, by omega, h3, by simpa using hL, ?_⟩
      rw [hil]
      exact ht
    have hcur : cur = cur.toList.toArray := by simp
    rw [hcur] at hb
    have hcl : cur.toList.length = cap := by simpa using h4
    by_cases hpe : p = l.length
    · subst hpe
      refine (Any2.slices_Insert_int_end_room lays2n21 g 0 l.length cap vb 0 1 vc [.int .i64 x] w (by omega) hroom (by omega) rfl (fun j hj => by rw [Nat.add_assoc]; exact hsp _ (by omega)) (fun j _ => hI.froz _) hvs h1v).mono ?_
      rintro e w' ⟨rfl, rfl⟩
      refine ⟨g, cap, rfl, .inl rfl, ?_, Fr.setCells (Or.inl List.mem_cons_self) _ _ _ (Fr.refl _ _)⟩
      have hb2 := Blk.setCells [.int .i64 x] (0 + l.length) w cur.toList hb (by rw [hcl]; simp; omega)
      refine hend _ _ hb2 (by simp [hcl]; omega) ?_
      rw [Nat.zero_add, List.take_append_of_le_length (by simp [hcl]; omega), List.take_of_length_le (by simp [hcl]; omega), ← map_insL, h5, List.take_of_length_le (by simp), List.drop_of_length_le (by simp), List.append_nil]
    · refine (Any2.slices_Insert_int_shift lays2n21 g 0 l.length cap p vb 0 1 vc (l.map (Value.int .i64)) [.int .i64 x] w (by omega) (by omega) hroom (by omega) hvb hlen rfl hI.csOf hsp (fun j _ => hI.froz _) hvs (one_map l) h1v
        3 3 1 cap hv.shape (by rw [hb.shape]; simp [h4]) (by omega) (hv.froz _) (hv.froz _)).mono ?_
      rintro e w' ⟨rfl, rfl⟩
      have hF : Fr [g] w ((w.drew.setCells g (0 + (p + 1)) ((l.map (Value.int .i64)).drop p)).setCells g (0 + p) [.int .i64 x]) :=
        Fr.setCells (Or.inl List.mem_cons_self) _ _ _ (Fr.setCells (Or.inl List.mem_cons_self) _ _ _ (Fr.refl _ _).drew)
      refine ⟨g, cap, rfl, .inl rfl, ?_, hF⟩
      have hb2 := Blk.setCells ((l.map (Value.int .i64)).drop p) (0 + (p + 1)) w.drew cur.toList hb.drew (by rw [hcl]; simp; omega)
      have hb3 := Blk.setCells [.int .i64 x] (0 + p) _ _ hb2 (by simp [hcl]; omega)
      refine hend _ _ hb3 (by simp [hcl]; omega) ?_
      rw [Nat.zero_add, Nat.zero_add, ← map_insL]
      have hA : (cur.toList.take (p + 1)).length = p + 1 := by rw [List.length_take]; omega
      have hT : (cur.toList.take (p + 1)).take p = (l.map (Value.int .i64)).take p := by
        rw [← h5, List.take_take, List.take_take]
        congr 1
        omega
      have hD : ∀ (B R : List Value), (cur.toList.take (p + 1) ++ B ++ R).drop (p + 1) = B ++ R := fun B R => by
        rw [List.append_assoc, List.drop_append_of_le_length (by omega), List.drop_of_length_le (by omega), List.nil_append]
      have hK : ∀ (B R : List Value), (cur.toList.take (p + 1) ++ B ++ R).take p = (l.map (Value.int .i64)).take p := fun B R => by
        rw [List.append_assoc, List.take_append_of_le_length (by omega), hT]
      rw [hK]
      show (_ ++ _ ++ List.drop (p + 1) _).take _ = _
      rw [hD, ← List.append_assoc, List.take_append_of_le_length (by simp; omega), List.take_of_length_le (by simp; omega)]
  · obtain ⟨hg1, hg2⟩ := grown_bd w (l.length + 1) cap 3 (by omega)
    have hil := insL_length l p x
    by_cases hpe : p = l.length
    · subst hpe
      refine (Any2.slices_Insert_int_end_grow lays2n21 (some ⟨g, 0, none⟩) l.length cap vb 0 1 vc (l.map (Value.int .i64)) [.int .i64 x] w (by omega) hle.1 (by omega) (by omega) hlen rfl (by intro h; cases h)
        (fun a ha j v hj => by cases ha; rw [Addr.add_lit]; exact h.csOf j v hj) hvs h1v).mono ?_
      rintro e w' ⟨rfl, rfl⟩
      refine ⟨w.heap.size, _, rfl, .inr (Nat.le_refl _), ?_, ((Fr.refl [g] w).drew.alloc _)⟩
      show Iv _ _ (grownCap w (l.length + 1) cap 3) _
      refine ⟨_, Blk.new w.drew _ _, by omega, hg2, ?_, ?_⟩
      · rw [Array.size_append, size_zeroCells]
        show ((l.map (Value.int .i64)) ++ [Value.int .i64 x]).toArray.size + (grownCap w (l.length + 1) cap 3 - (l.length + 1)) * 1 = _
        simp
        omega
      · rw [← map_insL, Array.toList_append, List.take_append_of_le_length (by simp; omega), List.take_of_length_le (by simp; omega), List.take_of_length_le (by simp), List.drop_of_length_le (by simp), List.append_nil]
    · have hcsd : ((l.map (Value.int .i64)).drop p).length = l.length - p := by rw [List.length_drop, hlen]
      refine (Any2.slices_Insert_int_grow lays2n21 g 0 l.length cap p vb 0 1 vc (l.map (Value.int .i64)) [.int .i64 x] w (by omega) (by omega) hle.1 (by omega) (by omega) hlen rfl h.csOf hvs (one_map l) h1v).mono ?_
      rintro e w' ⟨rfl, rfl⟩
      generalize hq : grownCap w (l.length + 1) cap 3 = q at *
      refine ⟨w.heap.size, q, by show Ending.returned (.slice (some ⟨w.heap.size, 0, none⟩) (l.length + 1) (grownCap w (l.length + 1) cap 3)) = _; rw [hq], .inr (Nat.le_refl _), ?_, Fr.setCells (Or.inr (Nat.le_refl _)) _ _ _ (Fr.drew (Fr.setCells (Or.inr (Nat.le_refl _)) _ _ _ ((Fr.refl [g] w).alloc _).drew))⟩
      have e0 : ((l.map (Value.int .i64)).take p).toArray ++ Builtin.zeroCells (Value.int .i64 0).cells (l.length + 1 - p) ++ Builtin.zeroCells (Value.int .i64 0).cells (q - (l.length + 1)) = ((l.map (Value.int .i64)).take p ++ ((Builtin.zeroCells (Value.int .i64 0).cells (l.length + 1 - p)).toList ++ (Builtin.zeroCells (Value.int .i64 0).cells (q - (l.length + 1))).toList)).toArray := by
        apply Array.ext'
        simp
      have hz1 : (Builtin.zeroCells (Value.int .i64 0).cells (l.length + 1 - p)).toList.length = l.length + 1 - p := by
        rw [Array.length_toList, size_zeroCells]
        show (l.length + 1 - p) * 1 = _
        omega
      have hz2 : (Builtin.zeroCells (Value.int .i64 0).cells (q - (l.length + 1))).toList.length = q - (l.length + 1) := by
        rw [Array.length_toList, size_zeroCells]
        show (q - (l.length + 1)) * 1 = _
        omega
      have hT : ((l.map (Value.int .i64)).take p).length = p := by rw [List.length_take, hlen]; omega
      show Iv (((w.alloc (.cells (((l.map (Value.int .i64)).take p).toArray ++ Builtin.zeroCells (Value.int .i64 0).cells (l.length + 1 - p) ++ Builtin.zeroCells (Value.int .i64 0).cells (grownCap w (l.length + 1) cap 3 - (l.length + 1))) 3)).drew.setCells w.heap.size p [.int .i64 x]).drew.setCells w.heap.size (p + 1) ((l.map (Value.int .i64)).drop p)) w.heap.size q _
      rw [hq, e0]
      generalize (Builtin.zeroCells (Value.int .i64 0).cells (l.length + 1 - p)).toList = Z1 at *
      generalize (Builtin.zeroCells (Value.int .i64 0).cells (q - (l.length + 1))).toList = Z2 at *
      have b0 := Blk.new w ((l.map (Value.int .i64)).take p ++ (Z1 ++ Z2)).toArray 3
      have b1 := Blk.setCells [.int .i64 x] p _ _ b0.drew (by simp; omega)
      have b2 := Blk.setCells ((l.map (Value.int .i64)).drop p) (p + 1) _ _ b1.drew (by simp; omega)
      refine ⟨_, b2, by omega, hg2, by simp; omega, ?_⟩
      rw [hil, ← map_insL]
      have hA : ((l.map (Value.int .i64)).take p ++ (Z1 ++ Z2)).take p = (l.map (Value.int .i64)).take p := by
        rw [List.take_append_of_le_length (by omega), List.take_of_length_le (by omega)]
      rw [hA, List.take_append_of_le_length (l₁ := (l.map (Value.int .i64)).take p ++ [Value.int .i64 x]) (by simp; omega), List.take_of_length_le (l := (l.map (Value.int .i64)).take p ++ [Value.int .i64 x]) (by simp; omega)]
      rw [List.take_append_of_le_length (by simp; omega), List.take_of_length_le (by simp; omega)]

theorem Iv.ck {w : World} {g cap : Nat} {l : List Int} : Iv w g cap l ↔ Ck.in (g, ivCh 3 cap l) w := by
  constructor
  · rintro ⟨cur, h1, h2, h3, h4, h5⟩
    exact ⟨_, h1, cur, rfl, h4, by rw [List.length_map]; exact h2, h3, by rw [List.length_map]; exact h5⟩
  · rintro ⟨o, h1, cur, rfl, h2, h3, h4, h5⟩
    rw [List.length_map] at h3 h5
    exact ⟨cur, h1, h3, h4, h2, h5⟩
theorem cInsert {F : List Nat} {w0 : World} {H : List Ck} {Q : Ending → World → Prop} {w : World} (hS : Sat F w0 H w) (n m : Nat) {g cap p vb vc len : Nat} {l : List Int} {x : Int}
    (hn : H[n]? = some (g, ivCh 3 cap l)) (hm : H[m]? = some (vb, .cel #[.int .i64 x] 3)) (hnm : n ≠ m) (hl : l.length ≤ 4096) (hp : p ≤ l.length) (hlen : len = l.length)
    (k : ∀ (x' : Nat × Nat) w', Sat F w0 ((x'.1, ivCh 3 x'.2 (insL l p x)) :: H.eraseIdx n) w' → Q (.returned (.slice (some ⟨x'.1, 0, none⟩) (l.length + 1) x'.2)) w') :
    Calls Tryd.prog 40 #[.slice (some ⟨g, 0, none⟩) len cap, .int .i64 (p : Nat), .slice (some ⟨vb, 0, none⟩) 1 vc] w Q := by
  refine hS.call1 n hn (α := Nat × Nat) (R := fun x' => .slice (some ⟨x'.1, 0, none⟩) (l.length + 1) x'.2) (N := fun x' => [(x'.1, ivCh 3 x'.2 (insL l p x))]) (fun hin => ?_) k
  refine (sInsert g cap p l x vb vc w (Iv.ck.2 hin) hl hp (Ck.cel_in.1 (hS.mem m hm)) (hS.ne m n hm hn (Ne.symm hnm)) len hlen).mono ?_
  rintro e w' ⟨g', c', rfl, h1, h2, h3⟩
  exact ⟨(g', c'), rfl, Sat.one h3 (Iv.ck.1 h2) (h1.imp (fun h => by simp [h]) id)⟩
end Go.Proofs.YtnnpjjehecbljaaDoor
