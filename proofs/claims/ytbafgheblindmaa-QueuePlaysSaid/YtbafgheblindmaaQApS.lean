/-
  queue: slices.AppendSeq and slices.Collect over the items: contracts.
-/
import Derived.Test.YtbafgheblindmaaQSeq
namespace Go.Proofs.Ytbafgheblindmaa
open Go.RowKit Go.Shelf

attribute [local go_sem] Oper.semAt_some

theorem itmInfo : (Try.prog.info? 31).map (fun i => (i.zero, i.size, i.bytes)) = some (some (.agg #[.int .u64 0, .int .u64 0, .int .i64 0, .string ⟨#[]⟩]), 4, 40) := by kernel_rfl

theorem blk_own {β : Type} (B : Nat) (t : TypeId) (cs : Array Value) : Own (fun (_ : β) W => Blk W B cs t) := fun s X Y row hs hg hrow =>
  (hg.block B hs.lt (fun e' => by obtain ⟨o, ho, hc⟩ := hrow B e'.symm; rw [show X.heap[B]? = _ from hs] at ho; cases ho; cases hc)).trans hs

theorem itNew (w : World) (x : Itm) (j : Nat) (u : Value) (h : ([.int .u64 x.time, .int .u64 x.order, .int .i64 x.to, .string x.data] : List Value)[j]? = some u) : (w.alloc (.cells #[.int .u64 x.time, .int .u64 x.order, .int .i64 x.to, .string x.data] 31)).cell? ((⟨w.heap.size, 0, none⟩ : Addr).add j) = some u := by
  have hB := (Blk.new w #[.int .u64 x.time, .int .u64 x.order, .int .i64 x.to, .string x.data] 31).cellAt (i := j) (v := u) (by simpa using h)
  rw [← hB]
  unfold Addr.add
  split
  · rename_i e; subst e; rfl
  · simp
theorem itOne (x : Itm) (u : Value) (h : u ∈ ([.int .u64 x.time, .int .u64 x.order, .int .i64 x.to, .string x.data] : List Value)) : u.oneCell' = true := by
  simp at h
  rcases h with rfl | rfl | rfl | rfl <;> rfl
theorem flat_snoc (L : List Itm) (x : Itm) : flat (L ++ [x]) = flat L ++ [.int .u64 x.time, .int .u64 x.order, .int .i64 x.to, .string x.data] := by
  rw [flat_app]; rfl

set_option maxRecDepth 100000 in
set_option maxHeartbeats 4000000 in
theorem qAppSeq (F : Fence) (n : Nat) (hF : F.fn 43) (hro : F.round = none) (hn : 3 ≤ n) (g : Nat) (lb : Array Value) (hFg : F.fn g) (eg : ∀ args w, (callFunc g args).run Try.prog w = .ok (.enter g args) w)
    (L : List Itm) (h4 : L.length ≤ 4096) (w0 w : World) (hbw : Below w0.heap.size w0 w) (hseq : SeqStopsK F (n - 1) Try.prog g lb (fun x : Itm => #[Itm.val x]) (Below w.heap.size) (fun ys => ys = L) (fun _ => True) L.length w0) :
    CallsIn F n Try.prog 43 #[.slice none 0 0, .func (.func g) #[] lb] w fun e W' => ∃ v, e = .returned v ∧ W'.ownsRow w.heap.size 31 4 v L.length (flat L) ∧ Below w.heap.size w W' := by
  have h1 : 1 ≤ n := by omega
  obtain ⟨i0, hi, hz0, hz1, hz2⟩ := info_parts itmInfo
  refine callsIn_of_wp_marks Try.func43 rfl hF ?_ hro
  simp only [Try.ntmps43, List.size_toArray, List.length_cons, List.length_nil, Nat.reduceAdd, Nat.reduceSub, Array.replicate_succ, Array.replicate_zero, List.push_toArray, List.append_toArray, List.nil_append, List.cons_append]
  gi_wp2
  have bO := Boxed.new w 48 (.slice none 0 0)
  have hB0 : Below w.heap.size w (w.alloc (.cells #[.slice none 0 0] 48)) := (Below.refl _ w).alloc (Nat.le_refl _) _
  refine wpIn_rangeFunc_ownH hro h1 (gf := g) (lb := lb) rfl hFg eg hseq belowK_t (belowK_b (by simp)) (hbw.trans (hB0.mono hbw.size)) (fun _ => rfl)
    (fun pre W => (∃ v, Boxed W w.heap.size 48 v ∧ W.ownsRow w.heap.size 31 4 v pre.length (flat pre) ∧ True) ∧ Below w.heap.size w W)
    (fun _ _ _ => False)
    (OwnFrom.and (Own.from (holdsRow_own w.heap.size w.heap.size 48 31 4 (fun pre : List Itm => pre.length) (fun pre => flat pre) (fun _ _ => True)) _) (ownFrom_below (Nat.le_refl _) (by simp)))
    (fun _ _ _ _ _ hs _ _ => hs)
    ⟨⟨_, bO, World.ownsRow_nil _ _ _ _, trivial⟩, hB0⟩
    (fun x a' W => ∃ Bx, w.heap.size < Bx ∧ Blk W Bx #[.int .u64 x.time, .int .u64 x.order, .int .i64 x.to, .string x.data] 31 ∧ a' = { tmps := #[.slice none 0 0, .func (.func g) #[] lb, .pointer (some ⟨w.heap.size, 0, none⟩), undef, .slice none 0 0, .pointer (some ⟨Bx, 0, none⟩), .func (.func g) #[] lb, .agg #[.int .u64 x.time, .int .u64 x.order, .int .i64 x.to, .string x.data], undef, undef, undef, undef, undef], defers := [] })
    (fun x a' _ X Y row hs hg hr => by obtain ⟨Bx, h1, h2, h3⟩ := hs; exact ⟨Bx, h1, blk_own Bx 31 _ () X Y row h2 hg (fun r e => (hr r e).2), h3⟩)
    ?assign ?body ?done ?stop
  case assign =>
    rintro l pre x W K ⟨⟨v, hv, hrow, -⟩, hB⟩ hK
    unfold Itm.val
    gi_wp2
    exact hK _ _ ((KeepsOthers.alloc _ _).from _) ((Below.refl _ W).alloc hB.size _) ⟨⟨v, hv.alloc _, hrow.alloc _, trivial⟩, hB.alloc hB.size _⟩ ⟨W.heap.size, hv.lt, Blk.new _ _ _, rfl⟩
  case body =>
    rintro l pre x a' W hl ⟨r, hr⟩ ⟨⟨v, hv, hrow, -⟩, hB⟩ ⟨Bx, hBx, bX, rfl⟩ hlt
    have hc := hv.cell
    have x0 : W.cell? ⟨Bx, 0, none⟩ = some (.int .u64 x.time) := bX.cellAt (i := 0) rfl
    have x1 : W.cell? ⟨Bx, 1, none⟩ = some (.int .u64 x.order) := bX.cellAt (i := 1) rfl
    have x2 : W.cell? ⟨Bx, 2, none⟩ = some (.int .i64 x.to) := bX.cellAt (i := 2) rfl
    have x3 : W.cell? ⟨Bx, 3, none⟩ = some (.string x.data) := bX.cellAt (i := 3) rfl
    gi_wp2_with (gi_at_builtin; refine wpListIn_append_own _ rfl _ _ 48 rfl w.heap.size 31 i0 _ 4 40 Try.underlying48 hi hz0 hz1 hz2 rfl (by decide) _ _ _ rfl (hrow.alloc _) ⟨W.heap.size, 0, none⟩ 1 1 [.int .u64 x.time, .int .u64 x.order, .int .i64 x.to, .string x.data] rfl rfl (itNew W x) (itOne x) (by simp [maxLen]; omega) (by omega) (by have := hB.size; simp; omega) ?_; intro v' w1 hown' hgrow _; obtain ⟨g', cap', rfl⟩ := ownsRow_succ hown'; obtain ⟨hv1, hv2, hr2, hk2, hb2⟩ := hv.appended (by decide) hrow hB.size (Nat.le_refl _) hown' hgrow; have hc1 := hv1.cell; have hf1 := hv1.frozen)
    exact ⟨hk2.from _, hb2, ⟨_, hv2, by rw [flat_snoc, List.length_append]; exact hr2, trivial⟩, hB.trans hb2⟩
  case done =>
    rintro D ys W hD rfl ⟨⟨v, hv, hrow, -⟩, hB⟩ hK
    have hc := hv.cell
    gi_wp2
    refine ⟨by simp, .inl ⟨_, _, rfl, run_takeDeferred hK, ?_⟩⟩
    exact ⟨_, results_tmp rfl _ _ _, v, rfl, ownsRow_putObj hrow _ hK rfl, hB.trans (belowK_b (w := w) (Nat.le_refl _) W D _ _ (by simp at hD; omega) hK rfl rfl)⟩
  case stop =>
    rintro D c pre W _ _ h _
    exact h.elim

set_option maxHeartbeats 1000000 in
theorem qCollect (F : Fence) (n : Nat) (hF : F.fn 38) (hF2 : F.fn 43) (hro : F.round = none) (hn : 4 ≤ n) (g : Nat) (lb : Array Value) (hFg : F.fn g) (eg : ∀ args w, (callFunc g args).run Try.prog w = .ok (.enter g args) w)
    (L : List Itm) (h4 : L.length ≤ 4096) (w0 w : World) (hbw : Below w0.heap.size w0 w) (hseq : SeqStopsK F (n - 1 - 1) Try.prog g lb (fun x : Itm => #[Itm.val x]) (Below w.heap.size) (fun ys => ys = L) (fun _ => True) L.length w0) :
    CallsIn F n Try.prog 38 #[.func (.func g) #[] lb] w fun e W' => ∃ v, e = .returned v ∧ W'.ownsRow w.heap.size 31 4 v L.length (flat L) ∧ Below w.heap.size w W' := by
  have h1 : 1 ≤ n := by omega
  refine callsIn_of_wp Try.func38 rfl hF ?_ hro
  simp only [Try.ntmps38, List.size_toArray, List.length_cons, List.length_nil, Nat.reduceAdd, Nat.reduceSub, Array.replicate_succ, Array.replicate_zero, List.push_toArray, List.append_toArray, List.nil_append, List.cons_append]
  gi_wp2_with (gi_at_call 43; refine (qAppSeq F (n - 1) hF2 hro (by omega) g lb hFg eg L h4 w0 _ hbw hseq).mono ?_; rintro e w' ⟨v, rfl, hrow, hb⟩)
  go_ret
  exact ⟨v, rfl, hrow, hb⟩
end Go.Proofs.Ytbafgheblindmaa
