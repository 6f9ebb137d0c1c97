/-
  queue: Double where there is no room; the contracts with what a caller needs to know of its own blocks.
-/
import Derived.Test.YtbafgheblindmaaQDrop
namespace Go.Proofs.Ytbafgheblindmaa
open Go.RowKit

theorem dblS {w : World} {q g c i n : Nat} {L : List Itm} {x : Itm} {last : Int} (h : QB w q (.slice (some ⟨g, 0, none⟩) (n + 1) c) L last) (hi : i < L.length) (hx : at' L i = x) :
    w.cell? ⟨q, 0, none⟩ = some (.slice (some ⟨g, 0, none⟩) (n + 1) c) ∧ w.cell? ⟨g, i * 4 + 2, none⟩ = some (.int .i64 x.to) ∧ w.cell? ⟨g, i * 4 + 3, none⟩ = some (.string x.data) := by
  subst hx
  obtain ⟨a0, a1, a2, a3⟩ := h.its.cells4 rfl hi
  exact ⟨h.blk.cellAt (i := 0) rfl, a2, a3⟩

set_option maxRecDepth 100000 in
set_option maxHeartbeats 2000000 in
theorem qDoubleFull (q : Nat) (v : Value) (S : List Itm) (last o t : Int) (w : World) (h : QS w q v S last) (hf : S.length = 4096) :
    Calls Try.prog 13 #[.pointer (some ⟨q, 0, none⟩), .int .u64 o, .int .u64 t] w fun e w' => e = .returned (.tuple #[.int .u64 0, .bool false]) ∧ Fr [] w w' := by
  have HQ := Lib.hid h
  obtain ⟨L, hB, hO⟩ := h
  have HF := Lib.hid (qFind L q v last o w hB hO.room)
  have HP := Lib.hid hO.perm
  have HB := Lib.hid hB
  have Hf := Lib.hid hf
  clear hB hO hf
  go_enter Try.func13, Try.ntmps13
  go_wp2_with fail
  refine HF.out.mono ?_
  rintro e w1 ⟨r, rfl, HA, f1⟩
  rcases HA.out with ⟨rfl, hn⟩ | ⟨i, rfl, hi, ho⟩
  · clear hn HA
    have hd : decide ((0 : Int) ≤ -1) = false := rfl
    go_wp2_with fail
    go_ret2
    exact ⟨rfl, f1⟩
  · have hd : decide ((0 : Int) ≤ (i : Int)) = true := by simp
    obtain ⟨n, hn⟩ : ∃ n, L.length = n + 1 := ⟨L.length - 1, by omega⟩
    have HB1 := Lib.hid (HB.out.fr0 f1)
    obtain ⟨g, c, rfl⟩ := HB.out.shape1 hn
    obtain ⟨x, hx⟩ : ∃ x, at' L i = x := ⟨_, rfl⟩
    obtain ⟨hq, a2, a3⟩ := dblS HB1.out hi hx
    have hi2 : i < n + 1 := by omega
    have HAd := Lib.hid (fun w2 (f2 : Fr [] w w2) => qAddFull q (.slice (some ⟨g, 0, none⟩) (n + 1) c) S last t x.to x.data w2 (HQ.out.fr0 f2) Hf.out)
    have hn4 : n + 1 ≤ 4096 := by have := HQ.out.room; have := HP.out.length_eq; omega
    have hi3 : (i : Int) < (n : Int) + 1 := by omega
    have hi0 : (0 : Int) ≤ (i : Int) := by omega
    have HF1 := Lib.hid f1
    clear HA hx ho hn hi f1
    go_wp2_with fail
    go_region_held3 (fun w' => w'.cell? ⟨q, 0, none⟩ = some (.slice (some ⟨g, 0, none⟩) (n + 1) c) ∧ w'.cell? ⟨g, i * 4 + 2, none⟩ = some (.int .i64 x.to) ∧ w'.cell? ⟨g, i * 4 + 3, none⟩ = some (.string x.data))
      (go_keep)
      ((go_at_call 10; refine (HAd.out _ (HF1.out.drew)).mono ?_; rintro e w2 ⟨rfl, rfl⟩))
    all_goals go_wp2_with fail
    all_goals go_ret2
    all_goals exact ⟨rfl, HF1.out.drew⟩

/-- A queue of a caller's own, all of it newer than w0, of which nothing else has turned. -/
structure QW (w0 w : World) (q : Nat) (v : Value) (S : List Itm) (last : Int) : Prop where
  qs : QS w q v S last
  hq : w0.heap.size ≤ q
  own : ∀ x, x ∈ v.ownBlock.toList → w0.heap.size ≤ x
  fr : Fr [] w0 w

theorem QW.step {w0 w w' : World} {q : Nat} {v v' : Value} {S S' : List Itm} {last last' : Int} (h : QW w0 w q v S last) (hs : QS w' q v' S' last') (hk : Kept q v w v' w') : QW w0 w' q v' S' last' :=
  ⟨hs, h.hq, fun x hx => by
      rcases hk.2 x hx with h1 | h1
      · exact h.own x h1
      · exact Nat.le_trans h.fr.size h1,
    h.fr.trans hk.1 (fun x hx => by
      rcases List.mem_cons.1 hx with rfl | hx
      · exact .inr h.hq
      · exact .inr (h.own x hx))⟩
theorem QW.fr0 {w0 w w' : World} {q : Nat} {v : Value} {S : List Itm} {last : Int} (h : QW w0 w q v S last) (hf : Fr [] w w') : QW w0 w' q v S last := ⟨h.qs.fr0 hf, h.hq, h.own, h.fr.trans0 hf⟩

/-- A block that is none of the queue's. -/
def Away (x : Nat) (w : World) (q : Nat) (v : Value) : Prop := x < w.heap.size ∧ x ≠ q ∧ x ∉ v.ownBlock.toList
theorem Away.kept {x : Nat} {w w' : World} {q : Nat} {v v' : Value} (h : Away x w q v) (hk : Kept q v w v' w') : Away x w' q v' :=
  ⟨Nat.lt_of_lt_of_le h.1 hk.1.size, h.2.1, fun hx => by
    rcases hk.2 x hx with h1 | h1
    · exact h.2.2 h1
    · exact absurd h.1 (by omega)⟩
theorem Away.fr0 {x : Nat} {w w' : World} {q : Nat} {v : Value} (h : Away x w q v) (hf : Fr [] w w') : Away x w' q v := ⟨Nat.lt_of_lt_of_le h.1 hf.size, h.2.1, h.2.2⟩
theorem Away.blk {x : Nat} {w w' : World} {q : Nat} {v v' : Value} {cs : Array Value} {t : TypeId} (h : Away x w q v) (hb : Blk w x cs t) (hk : Kept q v w v' w') : Blk w' x cs t :=
  hb.fr hk.1 (by simp only [List.mem_cons, not_or]; exact h.2)
theorem QS.lt {w : World} {q : Nat} {v : Value} {S : List Itm} {last : Int} (h : QS w q v S last) : q < w.heap.size ∧ ∀ x, x ∈ v.ownBlock.toList → x < w.heap.size := by
  obtain ⟨L, hB, _⟩ := h
  exact ⟨hB.blk.lt, fun x hx => (World.ownsRow.lt hB.its x (by simpa using hx)).2⟩
theorem QS.away {w w' : World} {q : Nat} {v : Value} {S : List Itm} {last : Int} (h : QS w q v S last) {x : Nat} (hx : w.heap.size ≤ x) (hx' : x < w'.heap.size) : Away x w' q v :=
  ⟨hx', fun e => by have := h.lt.1; omega, fun hm => by have := h.lt.2 x hm; omega⟩

theorem wNew (w : World) : Calls Try.prog 9 #[] w fun e w' => ∃ q, e = .returned (.pointer (some ⟨q, 0, none⟩)) ∧ Hid (QW w w' q (.slice none 0 0) [] 0) :=
  (qNew w).mono fun _ _ ⟨h1, h2, h3⟩ => ⟨_, h1, h2, Nat.le_refl _, by simp [Value.ownBlock], h3⟩

theorem wAdd (w0 : World) (q : Nat) (v : Value) (S S' : List Itm) (last n t d : Int) (s : ByteArray) (w : World) (h : QW w0 w q v S last) (hf : S.length < 4096) (hl : last ≤ 1000000) (hn : last + 1 = n) (hS : ins ⟨t, n, d, s⟩ S = S') :
    Calls Try.prog 10 #[.pointer (some ⟨q, 0, none⟩), .int .u64 t, .int .i64 d, .string s] w fun e w' => e = .returned (.tuple #[.int .u64 n, .int .i64 0]) ∧ ∃ v', Hid (QW w0 w' q v' S' n) ∧ Hid (Kept q v w v' w') := by
  subst hn; subst hS
  exact (qAdd q v S last t d s w h.qs hf hl).mono fun _ _ ⟨h1, v', h2, h3⟩ => ⟨h1, v', h.step h2 h3, h3⟩

theorem wAddFull (w0 : World) (q : Nat) (v : Value) (S : List Itm) (last t d : Int) (s : ByteArray) (w : World) (h : QW w0 w q v S last) (hf : S.length = 4096) :
    Calls Try.prog 10 #[.pointer (some ⟨q, 0, none⟩), .int .u64 t, .int .i64 d, .string s] w fun e w' => e = .returned (.tuple #[.int .u64 0, .int .i64 4]) ∧ w = w' := qAddFull q v S last t d s w h.qs hf

theorem wPop0 (w0 : World) (q : Nat) (v : Value) (last : Int) (w : World) (h : QW w0 w q v [] last) :
    Calls Try.prog 11 #[.pointer (some ⟨q, 0, none⟩)] w fun e w' => e = .returned (.tuple #[.agg #[.int .u64 0, .int .u64 0, .int .i64 0, .string ⟨#[]⟩], .bool false]) ∧ Hid (QW w0 w' q v [] last) ∧ Hid (Fr [] w w') :=
  (qPop0 q v last w h.qs).mono fun _ _ ⟨h1, h2⟩ => ⟨h1, h.fr0 h2, h2⟩

theorem wPop (w0 : World) (q : Nat) (v : Value) (s : Itm) (S : List Itm) (last : Int) (w : World) (h : QW w0 w q v (s :: S) last) :
    Calls Try.prog 11 #[.pointer (some ⟨q, 0, none⟩)] w fun e w' => e = .returned (.tuple #[.agg #[.int .u64 s.time, .int .u64 s.order, .int .i64 s.to, .string s.data], .bool true]) ∧ ∃ v', Hid (QW w0 w' q v' S last) ∧ Hid (Kept q v w v' w') :=
  (qPop q v s S last w h.qs).mono fun _ _ ⟨h1, v', h2, h3⟩ => ⟨h1, v', h.step h2 h3, h3⟩

theorem wNext (w0 : World) (q : Nat) (v : Value) (S : List Itm) (last : Int) (w : World) (h : QW w0 w q v S last) :
    Calls Try.prog 18 #[.pointer (some ⟨q, 0, none⟩)] w fun e w' => e = .returned (Gave S) ∧ Hid (QW w0 w' q v S last) ∧ Hid (Fr [] w w') :=
  (qNext q v S last w h.qs).mono fun _ _ ⟨h1, h2⟩ => ⟨h1, h.fr0 h2, h2⟩

theorem wNext1 (w0 : World) (q : Nat) (v : Value) (s : Itm) (S : List Itm) (last : Int) (w : World) (h : QW w0 w q v (s :: S) last) :
    Calls Try.prog 18 #[.pointer (some ⟨q, 0, none⟩)] w fun e w' => e = .returned (.tuple #[.agg #[.int .u64 s.time, .int .u64 s.order, .int .i64 s.to, .string s.data], .bool true]) ∧ Hid (QW w0 w' q v (s :: S) last) ∧ Hid (Fr [] w w') := wNext w0 q v (s :: S) last w h

theorem wDrop (w0 : World) (q : Nat) (v : Value) (S S' : List Itm) (b : Bool) (last o : Int) (w : World) (h : QW w0 w q v S last) (hb : hasB S o = b) (hS : without S o = S') :
    Calls Try.prog 17 #[.pointer (some ⟨q, 0, none⟩), .int .u64 o] w fun e w' => e = .returned (.bool b) ∧ ∃ v', Hid (QW w0 w' q v' S' last) ∧ Hid (Kept q v w v' w') := by
  subst hb; subst hS
  exact (qDrop q v S last o w h.qs).mono fun _ _ ⟨h1, v', h2, h3⟩ => ⟨h1, v', h.step h2 h3, h3⟩

theorem wDouble (w0 : World) (q : Nat) (v : Value) (S S' : List Itm) (last n o t : Int) (x : Itm) (w : World) (h : QW w0 w q v S last) (hx : x ∈ S) (ho : x.order = o) (hf : S.length < 4096) (hl : last ≤ 1000000) (hn : last + 1 = n) (hS : ins ⟨t, n, x.to, x.data⟩ S = S') :
    Calls Try.prog 13 #[.pointer (some ⟨q, 0, none⟩), .int .u64 o, .int .u64 t] w fun e w' => e = .returned (.tuple #[.int .u64 n, .bool true]) ∧ ∃ v', Hid (QW w0 w' q v' S' n) ∧ Hid (Kept q v w v' w') := by
  subst hn; subst hS
  exact (qDouble q v S last o t x w h.qs hx ho hf hl).mono fun _ _ ⟨h1, v', h2, h3⟩ => ⟨h1, v', h.step h2 h3, h3⟩

theorem wDoubleNo (w0 : World) (q : Nat) (v : Value) (S : List Itm) (last o t : Int) (w : World) (h : QW w0 w q v S last) (hno : (∀ x, x ∈ S → x.order ≠ o) ∨ S.length = 4096) :
    Calls Try.prog 13 #[.pointer (some ⟨q, 0, none⟩), .int .u64 o, .int .u64 t] w fun e w' => e = .returned (.tuple #[.int .u64 0, .bool false]) ∧ Hid (QW w0 w' q v S last) ∧ Hid (Fr [] w w') := by
  rcases hno with hno | hno
  · exact (qDoubleNo q v S last o t w h.qs hno).mono fun _ _ ⟨h1, h2⟩ => ⟨h1, h.fr0 h2, h2⟩
  · exact (qDoubleFull q v S last o t w h.qs hno).mono fun _ _ ⟨h1, h2⟩ => ⟨h1, h.fr0 h2, h2⟩

theorem wLen (w0 : World) (q : Nat) (v : Value) (S : List Itm) (n : Nat) (last : Int) (w : World) (h : QW w0 w q v S last) (hn : S.length = n) :
    Calls Try.prog 12 #[.pointer (some ⟨q, 0, none⟩)] w fun e w' => e = .returned (.int .i64 n) ∧ w = w' := by
  subst hn; exact qLen q v S last w h.qs
end Go.Proofs.Ytbafgheblindmaa
