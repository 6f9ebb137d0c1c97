/-
  QueuePlays: a queue and the document's, side by side.
-/
import Derived.Test.YtbafgheblindmaaQRf6
import Derived.Laws.StructEq
namespace Go.Proofs.Ytbafgheblindmaa.queuePlays
open Go.RowKit Go.Proofs.Ytbafgheblindmaa

/-- The queue and the document's own, each with what it holds. -/
structure TwoX (w0 w : World) (qa : Nat) (va : Value) (Sa : List Itm) (la : Int) (qx : Nat) (vx : Value) (Sx : List Itm) (lx : Int) : Prop where
  a : QS w qa va Sa la
  b : RB w qx vx Sx lx
  sep : ∀ x, x ∈ qa :: va.ownBlock.toList → x ∉ qx :: vx.ownBlock.toList
  na : ∀ x, x ∈ qa :: va.ownBlock.toList → w0.heap.size ≤ x
  nb : ∀ x, x ∈ qx :: vx.ownBlock.toList → w0.heap.size ≤ x
  fr : Fr [] w0 w

theorem TwoX.fr0 {w0 w w' : World} {qa qx : Nat} {va vx : Value} {Sa Sx : List Itm} {la lx : Int} (h : TwoX w0 w qa va Sa la qx vx Sx lx) (hf : Fr [] w w') : TwoX w0 w' qa va Sa la qx vx Sx lx :=
  ⟨h.a.fr0 hf, h.b.fr0 hf, h.sep, h.na, h.nb, h.fr.trans0 hf⟩
theorem TwoX.stepA {w0 w w' : World} {qa qx : Nat} {va va' vx : Value} {Sa Sa' Sx : List Itm} {la la' lx : Int} (h : TwoX w0 w qa va Sa la qx vx Sx lx) (hs : QS w' qa va' Sa' la') (hk : Kept qa va w va' w') : TwoX w0 w' qa va' Sa' la' qx vx Sx lx := by
  refine ⟨hs, h.b.fr hk.1 (fun e => h.sep _ e (by simp)) (fun x hx e => h.sep _ e (by simp [hx])), fun x hx hy => ?_, fun x hx => ?_, h.nb, h.fr.trans hk.1 (fun x hx => .inr (h.na x hx))⟩
  · rcases List.mem_cons.1 hx with rfl | hx
    · exact h.sep _ (by simp) hy
    · rcases hk.2 x hx with h1 | h1
      · exact h.sep x (by simp [h1]) hy
      · exact absurd (h.b.lt hy) (by omega)
  · rcases List.mem_cons.1 hx with rfl | hx
    · exact h.na _ (by simp)
    · rcases hk.2 x hx with h1 | h1
      · exact h.na x (by simp [h1])
      · exact Nat.le_trans h.fr.size h1
theorem TwoX.stepX {w0 w w' : World} {qa qx : Nat} {va vx vx' : Value} {Sa Sx Sx' : List Itm} {la lx lx' : Int} (h : TwoX w0 w qa va Sa la qx vx Sx lx) (hs : RB w' qx vx' Sx' lx') (hk : Kept qx vx w vx' w') : TwoX w0 w' qa va Sa la qx vx' Sx' lx' := by
  refine ⟨h.a.fr hk.1 (fun e => h.sep qa (by simp) e) (fun x hx e => h.sep x (by simp [hx]) e), hs, fun x hx hy => ?_, h.na, fun x hx => ?_, h.fr.trans hk.1 (fun x hx => .inr (h.nb x hx))⟩
  · rcases List.mem_cons.1 hy with rfl | hy
    · exact h.sep _ hx (by simp)
    · rcases hk.2 x hy with h1 | h1
      · exact h.sep x hx (by simp [h1])
      · exact absurd (queueDrops.qsLt h.a hx) (by omega)
  · rcases List.mem_cons.1 hx with rfl | hx
    · exact h.nb _ (by simp)
    · rcases hk.2 x hx with h1 | h1
      · exact h.nb x (by simp [h1])
      · exact Nat.le_trans h.fr.size h1

/-- A block of a caller's own that is neither queue's. -/
def Off (w : World) (b : Nat) (cs : Array Value) (t : TypeId) (qa : Nat) (va : Value) (qx : Nat) (vx : Value) : Prop := Blk w b cs t ∧ b ∉ qa :: va.ownBlock.toList ∧ b ∉ qx :: vx.ownBlock.toList
theorem Off.new {w0 w w' : World} {b : Nat} {cs : Array Value} {t : TypeId} {qa qx : Nat} {va vx : Value} {Sa Sx : List Itm} {la lx : Int} (h : TwoX w0 w qa va Sa la qx vx Sx lx) (hb : Blk w' b cs t) (hn : w.heap.size ≤ b) : Off w' b cs t qa va qx vx :=
  ⟨hb, fun e => by have := queueDrops.qsLt h.a e; omega, fun e => by have := h.b.lt e; omega⟩
theorem Off.fr0 {w w' : World} {b : Nat} {cs : Array Value} {t : TypeId} {qa qx : Nat} {va vx : Value} (h : Off w b cs t qa va qx vx) (hf : Fr [] w w') : Off w' b cs t qa va qx vx := ⟨h.1.fr0 hf, h.2⟩
theorem Off.stepA {w w' : World} {b : Nat} {cs : Array Value} {t : TypeId} {qa qx : Nat} {va va' vx : Value} (h : Off w b cs t qa va qx vx) (hk : Kept qa va w va' w') : Off w' b cs t qa va' qx vx :=
  ⟨h.1.fr hk.1 h.2.1, fun e => by
    rcases List.mem_cons.1 e with rfl | e
    · exact h.2.1 (by simp)
    · rcases hk.2 b e with h1 | h1
      · exact h.2.1 (by simp [h1])
      · have := h.1.lt; omega, h.2.2⟩
theorem Off.stepX {w w' : World} {b : Nat} {cs : Array Value} {t : TypeId} {qa qx : Nat} {va vx vx' : Value} (h : Off w b cs t qa va qx vx) (hk : Kept qx vx w vx' w') : Off w' b cs t qa va qx vx' :=
  ⟨h.1.fr hk.1 h.2.2, h.2.1, fun e => by
    rcases List.mem_cons.1 e with rfl | e
    · exact h.2.2 (by simp)
    · rcases hk.2 b e with h1 | h1
      · exact h.2.2 (by simp [h1])
      · have := h.1.lt; omega⟩

theorem without_at {S : List Itm} {o : Int} (hu : S.Pairwise (fun a b => a.order ≠ b.order)) : ∀ {i : Nat}, i < S.length → (at' S i).order = o → without S o = S.take i ++ S.drop (i + 1) := by
  induction S with
  | nil => intro i hi; simp at hi
  | cons y S ih =>
    intro i hi ho
    have hy : ∀ u, u ∈ S → y.order ≠ u.order := fun u hu' => List.rel_of_pairwise_cons hu hu'
    cases i with
    | zero =>
      have hyo : y.order = o := ho
      unfold without
      rw [List.filter_cons, if_neg (by simp [hyo])]
      have : S.filter (fun z => z.order != o) = S := List.filter_eq_self.2 (fun z hz => by have := hy z hz; simp; omega)
      rw [this]
      rfl
    | succ i =>
      have hi' : i < S.length := by simpa using hi
      have ho' : (at' S i).order = o := ho
      have hne : y.order ≠ o := by
        have := hy (at' S i) (at_mem hi')
        omega
      have := ih (List.Pairwise.of_cons hu) hi' ho'
      unfold without at this ⊢
      rw [List.filter_cons, if_pos (by simpa using hne), this]
      rfl

theorem wDropA (w0 : World) (qa : Nat) (va : Value) (S : List Itm) (last o : Int) (qx : Nat) (vx : Value) (Sx : List Itm) (lx : Int) (w : World) (h : TwoX w0 w qa va S last qx vx Sx lx) :
    Calls Try.prog 17 #[.pointer (some ⟨qa, 0, none⟩), .int .u64 o] w fun e w' => e = .returned (.bool (hasB S o)) ∧ ∃ v', Hid (TwoX w0 w' qa v' (without S o) last qx vx Sx lx) ∧ Hid (Kept qa va w v' w') :=
  (qDrop qa va S last o w h.a).mono fun _ _ ⟨h1, v', h2, h3⟩ => ⟨h1, v', h.stepA h2 h3, h3⟩

theorem wDropX (w0 : World) (qa : Nat) (va : Value) (S : List Itm) (last o : Int) (qx : Nat) (vx : Value) (Sx : List Itm) (lx : Int) (w : World) (h : TwoX w0 w qa va S last qx vx Sx lx) (h4 : Sx.length ≤ 4096) (hu : Sx.Pairwise (fun a b => a.order ≠ b.order)) :
    Calls Try.prog 24 #[.pointer (some ⟨qx, 0, none⟩), .int .u64 o] w fun e w' => e = .returned (.bool (hasB Sx o)) ∧ ∃ v', Hid (TwoX w0 w' qa va S last qx v' (without Sx o) lx) ∧ Hid (Kept qx vx w v' w') := by
  refine (rDrop qx vx Sx lx o w h.b h4).mono ?_
  rintro e w' (⟨rfl, hno, rfl⟩ | ⟨i, hi, ho, rfl, v', h1, h2⟩)
  · have hno' : ∀ x, x ∈ Sx → x.order ≠ o := fun x hx => by
      obtain ⟨k, hk, e⟩ := List.getElem_of_mem hx
      have := hno k hk
      rwa [at_eq hk, e] at this
    rw [hasB_no hno', without_no hno']
    exact ⟨rfl, vx, h, Kept.refl _ _ _⟩
  · rw [hasB_yes (at_mem hi) ho, without_at hu hi ho]
    exact ⟨rfl, v', h.stepX h1.out h2.out, h2⟩

theorem eqlRef (t o d : Int) (s : ByteArray) (w : World) : (binOp .eql 50 (.agg #[.int .u64 t, .int .u64 o, .int .i64 d, .string s]) (.agg #[.int .u64 t, .int .u64 o, .int .i64 d, .string s])).run Try.prog w = .ok (.bool true) w := by
  have u1 := Try.underlying26
  have a1 := Try.isAgg26
  have z1 := Try.sizeOf26
  have u2 := Try.underlying3
  have a2 := Try.isAgg3
  have z2 := Try.sizeOf3
  have u3 := Try.underlying9
  have a3 := Try.isAgg9
  have z3 := Try.sizeOf9
  have hS : Try.prog.underlying 50 = some (.struct (Try.prog.fieldsOf 50)) := by kernel_rfl
  have hp : Try.prog.stoodInHeld 50 = false := by kernel_rfl
  rw [run_eql_struct, show (10000 : Nat) = 9999 + 1 from rfl, run_equalIn_agg w 9999 50 _ _ hS hp]
  simp only [Program.fieldsOf, Try.underlying50]
  go_simp
  try simp
theorem neqRef (t o d : Int) (s : ByteArray) (w : World) : (binOp .neq 50 (.agg #[.int .u64 t, .int .u64 o, .int .i64 d, .string s]) (.agg #[.int .u64 t, .int .u64 o, .int .i64 d, .string s])).run Try.prog w = .ok (.bool false) w := by
  have u1 := Try.underlying26
  have a1 := Try.isAgg26
  have z1 := Try.sizeOf26
  have u2 := Try.underlying3
  have a2 := Try.isAgg3
  have z2 := Try.sizeOf3
  have u3 := Try.underlying9
  have a3 := Try.isAgg9
  have z3 := Try.sizeOf9
  have hS : Try.prog.underlying 50 = some (.struct (Try.prog.fieldsOf 50)) := by kernel_rfl
  have hp : Try.prog.stoodInHeld 50 = false := by kernel_rfl
  rw [run_neq_struct, show (10000 : Nat) = 9999 + 1 from rfl, run_equalIn_agg w 9999 50 _ _ hS hp]
  simp only [Program.fieldsOf, Try.underlying50]
  go_simp
  try simp
theorem guardRef : Try.prog.eqGuardType Try.prog.depth 50 = false := by kernel_rfl
end Go.Proofs.Ytbafgheblindmaa.queuePlays
