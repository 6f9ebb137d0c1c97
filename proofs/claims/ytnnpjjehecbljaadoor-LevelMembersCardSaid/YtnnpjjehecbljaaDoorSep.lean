/-
  Chunks of memory, held side by side (Sat): what a walk knows of a world, as one fact. No statement is proved here.
-/
import Derived.Test.YtnnpjjehecbljaaDoorFBase
namespace Go.Proofs.YtnnpjjehecbljaaDoor
open Go.RowKit

/-- What is known of a block. -/
inductive Ch where
  | cel (cs : Array Value) (t : TypeId)
  | row (e : TypeId) (cap : Nat) (l : List Value)
  | obj (o : Obj)
def Ch.is : Ch → Obj → Prop
  | .cel cs t, o => o = .cells cs t (0, 0)
  | .row e cap l, o => ∃ cur, o = .cells cur e (0, 0) ∧ cur.size = cap ∧ l.length ≤ cap ∧ cap ≤ maxLen ∧ cur.toList.take l.length = l
  | .obj o', o => o = o'
abbrev Ck := Nat × Ch
def Ck.in (c : Ck) (w : World) : Prop := ∃ o, w.heap[c.1]? = some o ∧ c.2.is o
/-- From w0 on only blocks of F and new ones have changed; the chunks of H stand in w, each in a block of its own, that is of F or new. -/
structure Sat (F : List Nat) (w0 : World) (H : List Ck) (w : World) : Prop where
  fr : Fr F w0 w
  nd : (H.map (·.1)).Nodup
  all : ∀ c, c ∈ H → Ck.in c w
  own : ∀ c, c ∈ H → c.1 ∈ F ∨ w0.heap.size ≤ c.1

theorem erase_perm {α : Type} {c : α} : ∀ {H : List α} {n : Nat}, H[n]? = some c → (c :: H.eraseIdx n).Perm H
  | [], n, h => by simp at h
  | x :: t, 0, h => by
    have : x = c := by simpa using h
    subst this
    exact List.Perm.refl _
  | x :: t, n + 1, h => by
    have h1 : t[n]? = some c := by simpa using h
    show (c :: x :: t.eraseIdx n).Perm (x :: t)
    exact (List.Perm.swap x c _).trans ((erase_perm h1).cons x)

theorem Ck.in.lt {c : Ck} {w : World} (h : Ck.in c w) : c.1 < w.heap.size := by
  obtain ⟨o, h1, -⟩ := h
  exact blk_lt h1
theorem Ck.in.fr {S : List Nat} {c : Ck} {w w' : World} (h : Ck.in c w) (hf : Fr S w w') (hn : c.1 ∉ S) : Ck.in c w' := by
  obtain ⟨o, h1, h2⟩ := h
  exact ⟨o, hf.obj h1 hn, h2⟩
theorem Ck.in.same {c : Ck} {w w' : World} (h : Ck.in c w) (he : w'.heap[c.1]? = w.heap[c.1]?) : Ck.in c w' := by
  obtain ⟨o, h1, h2⟩ := h
  exact ⟨o, he.trans h1, h2⟩

theorem Sat.refl (F : List Nat) (w : World) : Sat F w [] w := ⟨Fr.refl F w, List.Pairwise.nil, (fun _ h => by cases h), (fun _ h => by cases h)⟩
/-- The start: chunks that may be changed. -/
theorem Sat.start {w : World} {H : List Ck} (nd : (H.map (·.1)).Nodup) (all : ∀ c, c ∈ H → Ck.in c w) : Sat (H.map (·.1)) w H w :=
  ⟨Fr.refl _ w, nd, all, fun c h => .inl (List.mem_map.2 ⟨c, h, rfl⟩)⟩
theorem Sat.drew {F : List Nat} {w0 w : World} {H : List Ck} (h : Sat F w0 H w) : Sat F w0 H w.drew := ⟨h.fr.drew, h.nd, h.all, h.own⟩
theorem Sat.drewN {F : List Nat} {w0 w : World} {H : List Ck} (h : Sat F w0 H w) (n : Nat) : Sat F w0 H (w.drewN n) := ⟨h.fr.drewN n, h.nd, h.all, h.own⟩
theorem Sat.lt {F : List Nat} {w0 w : World} {H : List Ck} (h : Sat F w0 H w) : ∀ c, c ∈ H → c.1 < w.heap.size := fun c hc => (h.all c hc).lt
theorem Sat.perm {F : List Nat} {w0 w : World} {H K : List Ck} (h : Sat F w0 H w) (hp : H.Perm K) : Sat F w0 K w :=
  ⟨h.fr, (hp.map _).nodup_iff.1 h.nd, fun c hc => h.all c (hp.mem_iff.2 hc), fun c hc => h.own c (hp.mem_iff.2 hc)⟩
theorem Sat.sub {F : List Nat} {w0 w : World} {H K : List Ck} (h : Sat F w0 H w) (hp : K.Sublist H) : Sat F w0 K w :=
  ⟨h.fr, h.nd.sublist (hp.map _), fun c hc => h.all c (hp.subset hc), fun c hc => h.own c (hp.subset hc)⟩
/-- The n-th one to the head. -/
theorem Sat.pull {F : List Nat} {w0 w : World} {H : List Ck} (h : Sat F w0 H w) (n : Nat) {c : Ck} (hn : H[n]? = some c) : Sat F w0 (c :: H.eraseIdx n) w := by
  exact h.perm (erase_perm hn).symm
theorem Sat.mem {F : List Nat} {w0 w : World} {H : List Ck} (h : Sat F w0 H w) (n : Nat) {c : Ck} (hn : H[n]? = some c) : Ck.in c w := h.all c (List.mem_of_getElem? hn)
theorem Sat.alloc {F : List Nat} {w0 w : World} {H : List Ck} (h : Sat F w0 H w) {o : Obj} {c : Ch} (hc : c.is o) : Sat F w0 ((w.heap.size, c) :: H) (w.alloc o) := by
  refine ⟨h.fr.alloc o, ?_, ?_, ?_⟩
  · rw [List.map_cons, List.nodup_cons]
    refine ⟨fun hm => ?_, h.nd⟩
    obtain ⟨d, hd, he⟩ := List.mem_map.1 hm
    have := h.lt d hd
    simp only at he
    omega
  · intro d hd
    rcases List.mem_cons.1 hd with rfl | hd
    · exact ⟨o, by show (w.heap.push o)[w.heap.size]? = _; simp, hc⟩
    · exact (h.all d hd).same (Below.heap_alloc w o d.1 (h.lt d hd))
  · intro d hd
    rcases List.mem_cons.1 hd with rfl | hd
    · exact .inr h.fr.size
    · exact h.own d hd
theorem Sat.allocK {F : List Nat} {w0 w : World} {H : List Ck} (h : Sat F w0 H w) (k : Nat) (hk : w.heap.size = k) {o : Obj} {c : Ch} (hc : c.is o) : Sat F w0 ((k, c) :: H) (w.alloc o) := by
  subst hk
  exact h.alloc hc
/-- A block of cells is made. -/
theorem Sat.new {F : List Nat} {w0 w : World} {H : List Ck} (h : Sat F w0 H w) (k : Nat) (hk : w.heap.size = k) (cs : Array Value) (t : TypeId) : Sat F w0 ((k, .cel cs t) :: H) (w.alloc (.cells cs t)) := h.allocK k hk rfl
/-- A call behind it: the chunks A are changed by it, the others stay. -/
theorem Sat.trans {F : List Nat} {w0 w w' : World} {A B N : List Ck} (h : Sat F w0 (A ++ B) w) (k : Sat (A.map (·.1)) w N w') : Sat F w0 (N ++ B) w' := by
  have hnd := h.nd
  rw [List.map_append, List.nodup_append] at hnd
  obtain ⟨hA, hB, hAB⟩ := hnd
  have hBlt : ∀ c, c ∈ B → c.1 < w.heap.size := fun c hc => h.lt c (List.mem_append.2 (.inr hc))
  have hBn : ∀ c, c ∈ B → c.1 ∉ A.map (·.1) := fun c hc hm => hAB _ hm _ (List.mem_map.2 ⟨c, hc, rfl⟩) rfl
  refine ⟨h.fr.trans k.fr (fun x hx => ?_), ?_, ?_, ?_⟩
  · obtain ⟨d, hd, rfl⟩ := List.mem_map.1 hx
    exact h.own d (List.mem_append.2 (.inl hd))
  · rw [List.map_append, List.nodup_append]
    refine ⟨k.nd, hB, ?_⟩
    intro x hx y hy
    obtain ⟨d, hd, rfl⟩ := List.mem_map.1 hx
    obtain ⟨e, he, rfl⟩ := List.mem_map.1 hy
    intro hde
    rcases k.own d hd with h1 | h1
    · exact hBn e he (hde ▸ h1)
    · have := hBlt e he; omega
  · intro c hc
    rcases List.mem_append.1 hc with h1 | h1
    · exact k.all c h1
    · exact (h.all c (List.mem_append.2 (.inr h1))).fr k.fr (hBn c h1)
  · intro c hc
    rcases List.mem_append.1 hc with h1 | h1
    · rcases k.own c h1 with h2 | h2
      · obtain ⟨d, hd, hde⟩ := List.mem_map.1 h2
        rw [← hde]
        exact h.own d (List.mem_append.2 (.inl hd))
      · have := h.fr.size; right; omega
    · exact h.own c (List.mem_append.2 (.inr h1))
theorem Sat.trans0 {F : List Nat} {w0 w w' : World} {B N : List Ck} (h : Sat F w0 B w) (k : Sat [] w N w') : Sat F w0 (N ++ B) w' := Sat.trans (A := []) h k
theorem Sat.fr0 {F : List Nat} {w0 w w' : World} {B : List Ck} (h : Sat F w0 B w) (k : Fr [] w w') : Sat F w0 B w' := Sat.trans (A := []) (N := []) h ⟨k, List.Pairwise.nil, (fun _ h => by cases h), (fun _ h => by cases h)⟩
theorem Sat.trans1 {F : List Nat} {w0 w w' : World} {a : Ck} {B N : List Ck} (h : Sat F w0 (a :: B) w) (k : Sat [a.1] w N w') : Sat F w0 (N ++ B) w' := Sat.trans (A := [a]) h k
theorem Sat.trans2 {F : List Nat} {w0 w w' : World} {a b : Ck} {B N : List Ck} (h : Sat F w0 (a :: b :: B) w) (k : Sat [a.1, b.1] w N w') : Sat F w0 (N ++ B) w' := Sat.trans (A := [a, b]) h k
theorem Sat.trans3 {F : List Nat} {w0 w w' : World} {a b c : Ck} {B N : List Ck} (h : Sat F w0 (a :: b :: c :: B) w) (k : Sat [a.1, b.1, c.1] w N w') : Sat F w0 (N ++ B) w' := Sat.trans (A := [a, b, c]) h k
/-- A block changed in place. -/
theorem Sat.put {F : List Nat} {w0 w : World} {H : List Ck} (h : Sat F w0 H w) (n : Nat) {b : Nat} {c d : Ch} (hn : H[n]? = some (b, c)) {w' : World} (hf : Fr [b] w w') (hd : Ck.in (b, d) w') : Sat F w0 (H.set n (b, d)) w' := by
  have h1 := h.pull n hn
  have k : Sat [b] w [(b, d)] w' := ⟨hf, by simp, (fun c hc => by simp at hc; subst hc; exact hd), (fun c hc => by simp at hc; subst hc; simp)⟩
  have h2 := Sat.trans1 h1 k
  refine h2.perm ?_
  have hlt : n < H.length := by
    rcases Nat.lt_or_ge n H.length with h1 | h1
    · exact h1
    · rw [List.getElem?_eq_none h1] at hn; cases hn
  have h3 : (H.set n (b, d))[n]? = some (b, d) := by rw [List.getElem?_set_self hlt]
  have h4 := erase_perm h3
  rw [List.eraseIdx_set_eq] at h4
  exact h4
theorem Ck.cel_in {w : World} {b : Nat} {cs : Array Value} {t : TypeId} : Ck.in (b, .cel cs t) w ↔ Blk w b cs t := by
  constructor
  · rintro ⟨o, h1, h2⟩
    have : o = .cells cs t (0, 0) := h2
    subst this
    exact h1
  · intro h
    exact ⟨_, h, rfl⟩
theorem Sat.set {F : List Nat} {w0 w : World} {H : List Ck} (h : Sat F w0 H w) (n : Nat) {b : Nat} {cs : Array Value} {t : TypeId} (hn : H[n]? = some (b, .cel cs t)) (i : Nat) (v : Value) : Sat F w0 (H.set n (b, .cel (cs.setIfInBounds i v) t)) (w.setCell ⟨b, i, none⟩ v) :=
  h.put n hn ((Fr.refl [b] w).setCell (p := ⟨b, i, none⟩) (.inl (by simp)) v) (Ck.cel_in.2 ((Ck.cel_in.1 (h.mem n hn)).set i v))
theorem Ck.row_set {w : World} {b : Nat} {e : TypeId} {cap : Nat} {l : List Value} (h : Ck.in (b, .row e cap l) w) (i : Nat) (v : Value) : Ck.in (b, .row e cap (l.set i v)) (w.setCell ⟨b, i, none⟩ v) := by
  obtain ⟨o, h1, cur, rfl, h2, h3, h4, h5⟩ := h
  have hb : Blk w b cur e := h1
  refine ⟨_, hb.set i v, _, rfl, by rw [Array.size_setIfInBounds]; exact h2, by rw [List.length_set]; exact h3, h4, ?_⟩
  rw [Array.toList_setIfInBounds, List.length_set, List.take_set, h5]
theorem Sat.setRow {F : List Nat} {w0 w : World} {H : List Ck} (h : Sat F w0 H w) (n : Nat) {b : Nat} {e : TypeId} {cap : Nat} {l : List Value} (hn : H[n]? = some (b, .row e cap l)) (i : Nat) (v : Value) : Sat F w0 (H.set n (b, .row e cap (l.set i v))) (w.setCell ⟨b, i, none⟩ v) :=
  h.put n hn ((Fr.refl [b] w).setCell (p := ⟨b, i, none⟩) (.inl (by simp)) v) (Ck.row_set (h.mem n hn) i v)

/-- What the walk's simp may use of a chunk. -/
def Ck.say (c : Ck) (w : World) : Prop :=
  match c.2 with
  | .cel cs _ => (∀ i, w.cell? ⟨c.1, i, none⟩ = cs[i]?) ∧ (∀ i, w.frozen? ⟨c.1, i, none⟩ = false) ∧ c.1 < w.heap.size
  | .row _ _ l => (∀ i, i < l.length → w.cell? ⟨c.1, i, none⟩ = l[i]?) ∧ (∀ i, w.frozen? ⟨c.1, i, none⟩ = false) ∧ c.1 < w.heap.size
  | .obj _ => c.1 < w.heap.size
theorem Ck.in.says {c : Ck} {w : World} (h : Ck.in c w) : c.say w := by
  have hlt := h.lt
  obtain ⟨b, c⟩ := c
  obtain ⟨o, h1, h2⟩ := h
  cases c with
  | cel cs t =>
    have : o = .cells cs t (0, 0) := h2
    subst this
    have hb : Blk w b cs t := h1
    exact ⟨hb.cell, hb.froz, hlt⟩
  | row e cap l =>
    obtain ⟨cur, rfl, h3, h4, h5, h6⟩ := h2
    have hb : Blk w b cur e := h1
    refine ⟨fun i hi => ?_, hb.froz, hlt⟩
    show w.cell? ⟨b, i, none⟩ = l[i]?
    rw [hb.cell, ← Array.getElem?_toList]
    conv => rhs; rw [← h6]
    rw [List.getElem?_take_of_lt hi]
  | obj o' => exact hlt
def says : List Ck → World → Prop
  | [], _ => True
  | [c], w => c.say w
  | c :: H, w => c.say w ∧ says H w
theorem says_of {w : World} : ∀ {H : List Ck}, (∀ c, c ∈ H → Ck.in c w) → says H w
  | [], _ => trivial
  | [c], h => (h c List.mem_cons_self).says
  | c :: d :: H, h => ⟨(h c List.mem_cons_self).says, says_of (H := d :: H) (fun e he => h e (List.mem_cons_of_mem _ he))⟩
theorem Sat.says {F : List Nat} {w0 w : World} {H : List Ck} (h : Sat F w0 H w) : says H w := says_of h.all

theorem Sat.one {S : List Nat} {w w' : World} {c : Ck} (f : Fr S w w') (hc : Ck.in c w') (hb : c.1 ∈ S ∨ w.heap.size ≤ c.1) : Sat S w [c] w' :=
  ⟨f, by simp, (fun d hd => by simp at hd; subst hd; exact hc), (fun d hd => by simp at hd; subst hd; exact hb)⟩
theorem Sat.ne {F : List Nat} {w0 w : World} {H : List Ck} (h : Sat F w0 H w) (n m : Nat) {c d : Ck} (hn : H[n]? = some c) (hm : H[m]? = some d) (hnm : n ≠ m) : c.1 ≠ d.1 := by
  intro he
  have hn' : (H.map (·.1))[n]? = some c.1 := by rw [List.getElem?_map, hn]; rfl
  have hm' : (H.map (·.1))[m]? = some c.1 := by rw [List.getElem?_map, hm, he]; rfl
  exact hnm ((List.getElem?_inj (by
    rcases Nat.lt_or_ge n (H.map (·.1)).length with h1 | h1
    · exact h1
    · rw [List.getElem?_eq_none h1] at hn'; cases hn') h.nd).1 (hn'.trans hm'.symm))
/-- Some of the chunks, by their places. -/
theorem Sat.pick {F : List Nat} {w0 w : World} {H : List Ck} (h : Sat F w0 H w) (is : List Nat) {K : List Ck} (hd : is.Nodup) (hK : is.map (fun i => H[i]?) = K.map some) : Sat F w0 K w := by
  have hlen : is.length = K.length := by have := congrArg List.length hK; simpa using this
  have hget : ∀ (j : Nat) (d : Ck), K[j]? = some d → ∃ i, is[j]? = some i ∧ H[i]? = some d := fun j d hj => by
    have h1 : (is.map (fun i => H[i]?))[j]? = some (some d) := by rw [hK, List.getElem?_map, hj]; rfl
    rw [List.getElem?_map] at h1
    cases hi : is[j]? with
    | none => rw [hi] at h1; simp at h1
    | some i => rw [hi] at h1; exact ⟨i, rfl, by simpa using h1⟩
  refine ⟨h.fr, ?_, fun d hd => ?_, fun d hd => ?_⟩
  · refine List.pairwise_iff_getElem.2 ?_
    intro a b ha hb hab he
    have he : (K.map (·.1))[a]? = (K.map (·.1))[b]? := by rw [List.getElem?_eq_getElem ha, List.getElem?_eq_getElem hb, he]
    rw [List.length_map] at hb
    obtain ⟨da, ha'⟩ : ∃ d, K[a]? = some d := ⟨_, List.getElem?_eq_getElem (by omega)⟩
    obtain ⟨db, hb'⟩ : ∃ d, K[b]? = some d := ⟨_, List.getElem?_eq_getElem hb⟩
    obtain ⟨i, hi1, hi2⟩ := hget a da ha'
    obtain ⟨j, hj1, hj2⟩ := hget b db hb'
    rw [List.getElem?_map, List.getElem?_map, ha', hb'] at he
    have hij : i ≠ j := fun e => by
      subst e
      have := (List.getElem?_inj (by omega : a < is.length) hd).1 (hi1.trans hj1.symm)
      omega
    exact h.ne i j hi2 hj2 hij (by simpa using he)
  · obtain ⟨j, hj⟩ := List.mem_iff_getElem?.1 hd
    obtain ⟨i, -, hi⟩ := hget j d hj
    exact h.mem i hi
  · obtain ⟨j, hj⟩ := List.mem_iff_getElem?.1 hd
    obtain ⟨i, -, hi⟩ := hget j d hj
    exact h.own d (List.mem_of_getElem? hi)
/-- A call that changes one chunk. -/
theorem Sat.call1 {P : Program} {f : FuncId} {args : Array Value} {F : List Nat} {w0 w : World} {H : List Ck} {Q : Ending → World → Prop} (hS : Sat F w0 H w) (n : Nat) {a : Ck} (hn : H[n]? = some a) {α : Type} {R : α → Value} {N : α → List Ck}
    (hc : Ck.in a w → Calls P f args w (fun e w' => ∃ x : α, e = .returned (R x) ∧ Sat [a.1] w (N x) w')) (k : ∀ x w', Sat F w0 (N x ++ H.eraseIdx n) w' → Q (.returned (R x)) w') : Calls P f args w Q := by
  refine (hc (hS.mem n hn)).mono ?_
  rintro e w' ⟨x, rfl, h⟩
  exact k x w' ((hS.pull n hn).trans1 h)
/-- A call that changes none. -/
theorem Sat.call0 {P : Program} {f : FuncId} {args : Array Value} {F : List Nat} {w0 w : World} {H : List Ck} {Q : Ending → World → Prop} (hS : Sat F w0 H w) {α : Type} {R : α → Value} {N : α → List Ck}
    (hc : Calls P f args w (fun e w' => ∃ x : α, e = .returned (R x) ∧ Sat [] w (N x) w')) (k : ∀ x w', Sat F w0 (N x ++ H) w' → Q (.returned (R x)) w') : Calls P f args w Q := by
  refine hc.mono ?_
  rintro e w' ⟨x, rfl, h⟩
  exact k x w' (hS.trans0 h)
theorem Sat.callF {P : Program} {f : FuncId} {args : Array Value} {F : List Nat} {w0 w : World} {H : List Ck} {Q : Ending → World → Prop} {v : Value} (hS : Sat F w0 H w)
    (hc : Calls P f args w (fun e w' => e = .returned v ∧ Fr [] w w')) (k : ∀ w', Sat F w0 H w' → Q (.returned v) w') : Calls P f args w Q := by
  refine hc.mono ?_
  rintro e w' ⟨rfl, h⟩
  exact k w' (hS.fr0 h)
theorem at0 {α : Type} {a : α} {L : List α} : (a :: L)[0]? = some a := rfl
theorem at1 {α : Type} {a b : α} {L : List α} : (a :: b :: L)[1]? = some b := rfl
theorem at2 {α : Type} {a b c : α} {L : List α} : (a :: b :: c :: L)[2]? = some c := rfl
theorem at3 {α : Type} {a b c d : α} {L : List α} : (a :: b :: c :: d :: L)[3]? = some d := rfl
theorem at4 {α : Type} {a b c d e : α} {L : List α} : (a :: b :: c :: d :: e :: L)[4]? = some e := rfl
theorem at5 {α : Type} {a b c d e f : α} {L : List α} : (a :: b :: c :: d :: e :: f :: L)[5]? = some f := rfl
theorem at6 {α : Type} {a b c d e f g : α} {L : List α} : (a :: b :: c :: d :: e :: f :: g :: L)[6]? = some g := rfl
theorem at7 {α : Type} {a b c d e f g h : α} {L : List α} : (a :: b :: c :: d :: e :: f :: g :: h :: L)[7]? = some h := rfl
theorem at8 {α : Type} {a b c d e f g h i : α} {L : List α} : (a :: b :: c :: d :: e :: f :: g :: h :: i :: L)[8]? = some i := rfl
theorem at9 {α : Type} {a b c d e f g h i j : α} {L : List α} : (a :: b :: c :: d :: e :: f :: g :: h :: i :: j :: L)[9]? = some j := rfl
theorem at10 {α : Type} {a b c d e f g h i j k : α} {L : List α} : (a :: b :: c :: d :: e :: f :: g :: h :: i :: j :: k :: L)[10]? = some k := rfl
theorem at11 {α : Type} {a b c d e f g h i j k l : α} {L : List α} : (a :: b :: c :: d :: e :: f :: g :: h :: i :: j :: k :: l :: L)[11]? = some l := rfl
theorem at12 {α : Type} {a b c d e f g h i j k l m : α} {L : List α} : (a :: b :: c :: d :: e :: f :: g :: h :: i :: j :: k :: l :: m :: L)[12]? = some m := rfl
/-- Another way to know a block. -/
theorem Sat.recast {F : List Nat} {w0 w : World} {H : List Ck} {b : Nat} {c d : Ch} (h : Sat F w0 ((b, c) :: H) w) (hd : Ck.in (b, c) w → Ck.in (b, d) w) : Sat F w0 ((b, d) :: H) w :=
  ⟨h.fr, h.nd, (fun x hx => by
    rcases List.mem_cons.1 hx with rfl | hx
    · exact hd (h.all _ List.mem_cons_self)
    · exact h.all _ (List.mem_cons_of_mem _ hx)), (fun x hx => by
    rcases List.mem_cons.1 hx with rfl | hx
    · exact h.own (b, c) List.mem_cons_self
    · exact h.own _ (List.mem_cons_of_mem _ hx))⟩
theorem Sat.asRow {F : List Nat} {w0 w : World} {H : List Ck} {b : Nat} {cs : Array Value} {t : TypeId} (h : Sat F w0 ((b, .cel cs t) :: H) w) (hcs : cs.size ≤ maxLen) : Sat F w0 ((b, .row t cs.size cs.toList) :: H) w :=
  h.recast (fun ⟨o, h1, h2⟩ => ⟨o, h1, cs, h2, rfl, (by simp), hcs, (by rw [List.take_of_length_le (by simp)])⟩)
/-- A slice of ints. -/
abbrev ivCh (t : TypeId) (cap : Nat) (l : List Int) : Ch := .row t cap (l.map (Value.int .i64))
end Go.Proofs.YtnnpjjehecbljaaDoor
