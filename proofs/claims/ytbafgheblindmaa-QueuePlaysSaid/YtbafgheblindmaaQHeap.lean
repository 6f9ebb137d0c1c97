/-
  Plain law: a list of items as a heap: what up, down, push, pop and remove make of it. No program is in sight.
-/
namespace Go.Proofs.Ytbafgheblindmaa

structure Itm where
  time : Int
  order : Int
  to : Int
  data : ByteArray

def it0 : Itm := ⟨0, 0, 0, ⟨#[]⟩⟩
def at' (L : List Itm) (i : Nat) : Itm := L.getD i it0
/-- Is one ahead of another one? -/
def Bef (a b : Itm) : Prop := a.time < b.time ∨ (a.time = b.time ∧ a.order < b.order)
instance (a b : Itm) : Decidable (Bef a b) := by unfold Bef; infer_instance
def Leq (a b : Itm) : Prop := a.time < b.time ∨ (a.time = b.time ∧ a.order ≤ b.order)
theorem leq_of_not {a b : Itm} (h : ¬ Bef b a) : Leq a b := by unfold Bef at h; unfold Leq; omega
theorem not_of_leq {a b : Itm} (h : Leq a b) : ¬ Bef b a := by unfold Leq at h; unfold Bef; omega
theorem leq_of_bef {a b : Itm} (h : Bef a b) : Leq a b := by unfold Bef at h; unfold Leq; omega
theorem Leq.trans {a b c : Itm} (h : Leq a b) (k : Leq b c) : Leq a c := by unfold Leq at *; omega
theorem Leq.refl (a : Itm) : Leq a a := by unfold Leq; omega

def swp (L : List Itm) (i j : Nat) : List Itm := (L.set i (at' L j)).set j (at' L i)
theorem swp_length (L : List Itm) (i j : Nat) : (swp L i j).length = L.length := by simp [swp]
theorem at_eq {L : List Itm} {i : Nat} (h : i < L.length) : at' L i = L[i] := by
  unfold at'; rw [List.getD_eq_getElem?_getD, List.getElem?_eq_getElem h]; rfl
theorem at_set {L : List Itm} {i k : Nat} {x : Itm} (h : i < L.length) : at' (L.set i x) k = if k = i then x else at' L k := by
  unfold at'
  rw [List.getD_eq_getElem?_getD, List.getD_eq_getElem?_getD, List.getElem?_set]
  by_cases e : k = i
  · subst e; simp [h]
  · rw [if_neg (fun h => e h.symm), if_neg e]
theorem at_swp {L : List Itm} {i j : Nat} (hi : i < L.length) (hj : j < L.length) (k : Nat) :
    at' (swp L i j) k = if k = j then at' L i else if k = i then at' L j else at' L k := by
  unfold swp
  rw [at_set (by simpa using hj), at_set hi]
theorem swp_perm {L : List Itm} {i j : Nat} (hi : i < L.length) (hj : j < L.length) : (swp L i j).Perm L := by
  unfold swp
  rw [at_eq hi, at_eq hj]
  exact List.set_set_perm hi hj

def Heap (n : Nat) (L : List Itm) : Prop := ∀ k, 0 < k → k < n → Leq (at' L ((k - 1) / 2)) (at' L k)
def UpOK (n : Nat) (L : List Itm) (j : Nat) : Prop :=
  (∀ k, 0 < k → k < n → k ≠ j → Leq (at' L ((k - 1) / 2)) (at' L k)) ∧ (0 < j → ∀ k, 0 < k → k < n → (k - 1) / 2 = j → Leq (at' L ((j - 1) / 2)) (at' L k))
def DownOK (n : Nat) (L : List Itm) (i : Nat) : Prop :=
  (∀ k, 0 < k → k < n → k ≠ i → (k - 1) / 2 ≠ i → Leq (at' L ((k - 1) / 2)) (at' L k)) ∧ (0 < i → ∀ k, 0 < k → k < n → (k - 1) / 2 = i → Leq (at' L ((i - 1) / 2)) (at' L k))

theorem up_step {n j : Nat} {L : List Itm} (hn : n ≤ L.length) (hj : j < n) (h0 : 0 < j) (h : UpOK n L j) (hb : Bef (at' L j) (at' L ((j - 1) / 2))) : UpOK n (swp L ((j - 1) / 2) j) ((j - 1) / 2) := by
  obtain ⟨h1, h2⟩ := h
  have hi : (j - 1) / 2 < j := by omega
  have hA := at_swp (L := L) (i := (j - 1) / 2) (j := j) (by omega) (by omega)
  refine ⟨fun k k0 kn kne => ?_, fun g0 k k0 kn kp => ?_⟩
  · rw [hA k, hA ((k - 1) / 2)]
    by_cases e : k = j
    · subst e
      rw [if_neg (by omega), if_pos rfl, if_pos rfl]
      exact leq_of_bef hb
    · rw [if_neg e, if_neg kne]
      by_cases p : (k - 1) / 2 = j
      · rw [if_pos p]; exact h2 h0 k k0 kn p
      · rw [if_neg p]
        by_cases p2 : (k - 1) / 2 = (j - 1) / 2
        · rw [if_pos p2]
          have := h1 k k0 kn e
          rw [p2] at this
          exact (leq_of_bef hb).trans this
        · rw [if_neg p2]; exact h1 k k0 kn e
  · rw [hA k, hA (((j - 1) / 2 - 1) / 2), if_neg (by omega), if_neg (by omega)]
    have hg := h1 ((j - 1) / 2) g0 (by omega) (by omega)
    by_cases e : k = j
    · rw [if_pos e]; exact hg
    · rw [if_neg e, if_neg (by omega)]
      have := h1 k k0 kn e
      rw [kp] at this
      exact hg.trans this

theorem up_end {n j : Nat} {L : List Itm} (h : UpOK n L j) (hb : j = 0 ∨ ¬ Bef (at' L j) (at' L ((j - 1) / 2))) : Heap n L := by
  intro k k0 kn
  by_cases e : k = j
  · subst e
    rcases hb with h0 | hb
    · omega
    · exact leq_of_not hb
  · exact h.1 k k0 kn e

theorem down_step {n i j : Nat} {L : List Itm} (hn : n ≤ L.length) (hj : j < n) (h0 : 0 < j) (hp : (j - 1) / 2 = i) (h : DownOK n L i) (hb : Bef (at' L j) (at' L i))
    (hmin : ∀ k, 0 < k → k < n → (k - 1) / 2 = i → Leq (at' L j) (at' L k)) :
    DownOK n (swp L i j) j ∧ Leq (at' (swp L i j) ((j - 1) / 2)) (at' (swp L i j) j) := by
  obtain ⟨h1, h2⟩ := h
  have hA := at_swp (L := L) (i := i) (j := j) (by omega) (by omega)
  refine ⟨⟨fun k k0 kn kne kp => ?_, fun _ k k0 kn kp => ?_⟩, ?_⟩
  · rw [hA k, hA ((k - 1) / 2), if_neg kne, if_neg kp]
    by_cases e : k = i
    · subst e
      rw [if_pos rfl, if_neg (by omega)]
      exact h2 k0 j h0 hj hp
    · rw [if_neg e]
      by_cases p : (k - 1) / 2 = i
      · rw [if_pos p]; exact hmin k k0 kn p
      · rw [if_neg p]; exact h1 k k0 kn e p
  · rw [hA k, hA ((j - 1) / 2), if_neg (by omega), if_pos hp, if_neg (by omega), if_neg (by omega)]
    have := h1 k k0 kn (by omega) (by omega)
    rwa [kp] at this
  · rw [hA j, hA ((j - 1) / 2), if_neg (by omega), if_pos hp, if_pos rfl]
    exact leq_of_bef hb

theorem down_end {n i : Nat} {L : List Itm} (h : DownOK n L i) (hc : ∀ k, 0 < k → k < n → (k - 1) / 2 = i → Leq (at' L i) (at' L k)) : UpOK n L i :=
  ⟨fun k k0 kn e => by
    by_cases p : (k - 1) / 2 = i
    · rw [p]; exact hc k k0 kn p
    · exact h.1 k k0 kn e p, h.2⟩

theorem Heap.min {n : Nat} {L : List Itm} (h : Heap n L) : ∀ k, k < n → Leq (at' L 0) (at' L k) := by
  intro k
  induction k using Nat.strongRecOn with
  | _ k ih =>
    intro kn
    by_cases e : k = 0
    · subst e; exact Leq.refl _
    · exact (ih ((k - 1) / 2) (by omega) (by omega)).trans (h k (by omega) kn)

/-- Behind a push: the last one may be ahead of its parent. -/
theorem push_up {L : List Itm} {x : Itm} (h : Heap L.length L) : UpOK (L.length + 1) (L ++ [x]) L.length := by
  have hA : ∀ k, k < L.length → at' (L ++ [x]) k = at' L k := fun k hk => by
    unfold at'; rw [List.getD_eq_getElem?_getD, List.getD_eq_getElem?_getD, List.getElem?_append_left hk]
  refine ⟨fun k k0 kn kne => ?_, fun _ k k0 kn kp => by omega⟩
  rw [hA k (by omega), hA _ (by omega)]
  exact h k k0 (by omega)

/-- The first n of a heap of n + 1, with the one at i and the last one in each other's place. -/
theorem swap_down {n i : Nat} {L : List Itm} (hL : L.length = n + 1) (h : Heap (n + 1) L) (hi : i < n) : DownOK n (swp L i n) i := by
  have hA := at_swp (L := L) (i := i) (j := n) (by omega) (by omega)
  refine ⟨fun k k0 kn kne kp => ?_, fun i0 k k0 kn kp => ?_⟩
  · rw [hA k, hA ((k - 1) / 2), if_neg (show ¬ (k - 1) / 2 = n by omega), if_neg kp, if_neg (show ¬ k = n by omega), if_neg kne]
    exact h k k0 (by omega)
  · rw [hA k, hA ((i - 1) / 2), if_neg (show ¬ (i - 1) / 2 = n by omega), if_neg (show ¬ (i - 1) / 2 = i by omega), if_neg (show ¬ k = n by omega), if_neg (show ¬ k = i by omega)]
    have a := h i i0 (by omega)
    have b := h k k0 (by omega)
    rw [kp] at b
    exact a.trans b

theorem Heap.shorter {n m : Nat} {L : List Itm} (h : Heap n L) (hm : m ≤ n) : Heap m L := fun k k0 km => h k k0 (by omega)
theorem Heap.take {n : Nat} {L : List Itm} (h : Heap n L) (hn : n ≤ L.length) : Heap (L.take n).length (L.take n) := by
  have hA : ∀ k, k < n → at' (L.take n) k = at' L k := fun k hk => by
    unfold at'; rw [List.getD_eq_getElem?_getD, List.getD_eq_getElem?_getD, List.getElem?_take, if_pos hk]
  have hl : (L.take n).length = n := by simp; omega
  intro k k0 kn
  rw [hl] at kn
  rw [hA k kn, hA _ (by omega)]
  exact h k k0 kn

theorem take_last {n : Nat} {L : List Itm} (hL : L.length = n + 1) : L = L.take n ++ [at' L n] := by
  rw [at_eq (by omega), List.take_append_getElem (by omega), List.take_of_length_le (by omega)]

/-! ### the items in their order -/
def Sorted : List Itm → Prop := List.Pairwise Bef
theorem Sorted.rel {y : Itm} {l : List Itm} (h : Sorted (y :: l)) {z : Itm} (hz : z ∈ l) : Bef y z := List.rel_of_pairwise_cons h hz
theorem Sorted.tl {y : Itm} {l : List Itm} (h : Sorted (y :: l)) : Sorted l := List.Pairwise.of_cons h
def ins (x : Itm) : List Itm → List Itm
  | [] => [x]
  | y :: l => if Bef y x then y :: ins x l else x :: y :: l

theorem ins_perm (x : Itm) (l : List Itm) : (ins x l).Perm (x :: l) := by
  induction l with
  | nil => exact .refl _
  | cons y l ih =>
    rw [ins]
    split
    · exact ((List.Perm.cons y ih).trans (List.Perm.swap x y l))
    · exact .refl _

theorem ins_sorted {x : Itm} {l : List Itm} (h : Sorted l) (hd : ∀ y ∈ l, y.order ≠ x.order) : Sorted (ins x l) := by
  induction l with
  | nil => exact List.pairwise_singleton _ _
  | cons y l ih =>
    have hy : ∀ z, z ∈ l → Bef y z := fun z hz => h.rel hz
    have hl := h.tl
    rw [ins]
    split
    · rename_i hb
      refine List.Pairwise.cons (fun z hz => ?_) (ih hl (fun z hz => hd z (by simp [hz])))
      have := (ins_perm x l).mem_iff.1 hz
      rcases List.mem_cons.1 this with rfl | hz
      · exact hb
      · exact hy z hz
    · rename_i hb
      have hxy : Bef x y := by
        have := hd y (by simp)
        unfold Bef at hb ⊢
        omega
      refine List.Pairwise.cons (fun z hz => ?_) h
      rcases List.mem_cons.1 hz with rfl | hz
      · exact hxy
      · have := hy z hz
        unfold Bef at *
        omega

/-- The head of the order is the top of the heap. -/
theorem top_eq {L : List Itm} {s : Itm} {S : List Itm} (h : Heap L.length L) (hp : L.Perm (s :: S)) (hs : Sorted (s :: S)) : at' L 0 = s := by
  have hl : 0 < L.length := by rw [hp.length_eq]; simp
  have h0 : at' L 0 ∈ s :: S := by
    rw [at_eq hl]; exact hp.mem_iff.1 (List.getElem_mem _)
  rcases List.mem_cons.1 h0 with e | h1
  · exact e
  · have hb := hs.rel h1
    have hm : s ∈ L := hp.mem_iff.2 (by simp)
    obtain ⟨k, hk, e⟩ := List.getElem_of_mem hm
    have := h.min k hk
    rw [at_eq hk, e] at this
    exact absurd hb (not_of_leq this)

theorem pop_perm {R : List Itm} {s : Itm} {S : List Itm} (h : (R ++ [s]).Perm (s :: S)) : R.Perm S := by
  have : (s :: R).Perm (s :: S) := (List.perm_append_singleton s R).symm.trans h
  exact (List.perm_cons s).1 this

theorem sorted_unique {l : List Itm} (h : Sorted l) : ∀ {m : List Itm}, Sorted m → l.Perm m → l = m := by
  induction l with
  | nil => intro m _ hp; exact (List.nil_perm.1 hp).symm
  | cons x l ih =>
    intro m hm hp
    cases m with
    | nil => exact absurd hp.length_eq (by simp)
    | cons y m =>
      have e : x = y := by
        have hx : x ∈ y :: m := hp.mem_iff.1 (by simp)
        have hy : y ∈ x :: l := hp.mem_iff.2 (by simp)
        rcases List.mem_cons.1 hx with e | hx
        · exact e
        · rcases List.mem_cons.1 hy with e | hy
          · exact e.symm
          · have a := hm.rel hx
            have b := h.rel hy
            unfold Bef at a b
            omega
      subst e
      rw [ih h.tl hm.tl ((List.perm_cons x).1 hp)]

end Go.Proofs.Ytbafgheblindmaa
