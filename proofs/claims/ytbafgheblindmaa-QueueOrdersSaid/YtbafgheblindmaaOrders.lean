/-
  QueueOrders: what is added is popped in the order of its times, and those of one time as they came. And the row's sentence of it.
-/
import Derived.Test.YtbafgheblindmaaRows
import Derived.Test.YtbafgheblindmaaQEx
import Derived.WalkKit
import Derived.ProofKit
import Derived.OpenShut
import Derived.ShutString
import Derived.ChangeOld
import Derived.Below
import Derived.SizedLaws
import Derived.RegionTactic
import Derived.BigRegion
import Derived.IntWalk
import Derived.StillTailTactics
import Derived.Deep.RegionHeld3
import Derived.Deep.QuietTactic
import Derived.BigQuiet
namespace Go.Proofs.Ytbafgheblindmaa.queueOrders
open Go.ChangeShapes Go.WideShapes Go.ChangeAt Go.RowKit Go.Proofs.Ytbafgheblindmaa
open Go.ChangeMaps (open_string shut_string)

/-- What the walk is told of a slice of integers that came in: it is nil, or a row. -/
def IsRow (k : IntKind) (w : World) (a : Option Addr) (len cap : Nat) (zs : List Int) : Prop :=
  (a = none ∧ len = 0 ∧ cap = 0 ∧ zs = []) ∨
  ∃ x, a = some x ∧ len ≤ cap ∧ cap ≤ maxLen ∧ zs.length = cap ∧ (∀ i, i < zs.length → w.cell? (x.add i) = some (.int k (zs.getD i 0))) ∧ ∀ n ∈ zs, (Lit.int k n).wf = true

def itm (z : List Int) (i : Nat) : Itm := ⟨z.getD i 0, (i : Int) + 1, i, ⟨#[120]⟩⟩
def itms (z : List Int) (k : Nat) : List Itm := (List.range k).map (itm z)
theorem itms_succ (z : List Int) (k : Nat) : itms z (k + 1) = itms z k ++ [itm z k] := by simp [itms, List.range_succ]
theorem itms_len (z : List Int) (k : Nat) : (itms z k).length = k := by simp [itms]
theorem itms_mem {z : List Int} {k : Nat} {s : Itm} (h : s ∈ itms z k) : ∃ j, j < k ∧ s = itm z j := by
  simp only [itms, List.mem_map, List.mem_range] at h
  obtain ⟨j, hj, e⟩ := h
  exact ⟨j, hj, e.symm⟩
theorem add_perm {z : List Int} {k : Nat} {S : List Itm} (h : S.Perm (itms z k)) : (ins (itm z k) S).Perm (itms z (k + 1)) := by
  rw [itms_succ]
  exact ((ins_perm (itm z k) S).trans (List.Perm.cons _ h)).trans (List.perm_append_singleton _ _).symm

/-- What is known behind i pops: what is left, what was met, the last one. -/
structure Pops (z : List Int) (n i : Nat) (S : List Itm) (mb : List Bool) (la : Itm) : Prop where
  len : S.length + i = n
  mlen : mb.length = n
  from_ : ∀ s, s ∈ S → ∃ j, j < n ∧ s = itm z j ∧ mb[j]? = some false
  bef : 0 < i → ∀ s, s ∈ S → Bef la s
  uniq : S.Pairwise (fun a b => a.order ≠ b.order)
  sorted : Sorted S

theorem Pops.start {z : List Int} {n : Nat} {S : List Itm} (h : S.Perm (itms z n)) (hu : S.Pairwise (fun a b => a.order ≠ b.order)) (hs : Sorted S) : Pops z n 0 S (List.replicate n false) it0 :=
  ⟨by rw [h.length_eq, itms_len]; rfl, by simp, fun s hm => by
    obtain ⟨j, hj, e⟩ := itms_mem (h.mem_iff.1 hm)
    exact ⟨j, hj, e, by simp [hj]⟩, fun h => absurd h (by omega), hu, hs⟩

theorem Pops.step {z : List Int} {n i j : Nat} {s la : Itm} {S : List Itm} {mb : List Bool} (h : Pops z n i (s :: S) mb la) (e : s = itm z j) : Pops z n (i + 1) S (mb.set j true) s := by
  refine ⟨by have := h.len; simp at this; omega, by simpa using h.mlen, fun t ht => ?_, fun _ t ht => h.sorted.rel ht, List.Pairwise.of_cons h.uniq, h.sorted.tl⟩
  obtain ⟨k, hk, ek, em⟩ := h.from_ t (by simp [ht])
  refine ⟨k, hk, ek, ?_⟩
  have hne := List.rel_of_pairwise_cons h.uniq ht
  rw [List.getElem?_set, if_neg ?_, em]
  rintro rfl
  rw [e, ek] at hne
  exact hne rfl

def bools (mb : List Bool) : Array Value := (mb.map Value.bool).toArray
theorem bools_get {mb : List Bool} {j : Nat} {b : Bool} (h : mb[j]? = some b) : (bools mb)[j]? = some (.bool b) := by simp [bools, h]
theorem bools_set (mb : List Bool) (j : Nat) (b : Bool) : (bools mb).setIfInBounds j (.bool b) = bools (mb.set j b) := by
  simp [bools, List.map_set]
theorem bools_new (n : Nat) : Array.replicate n (Value.bool false) = bools (List.replicate n false) := by simp [bools]
theorem boolT : ElT Try.prog 32 4 (.bool false) 1 1 := ElT.mk' Try.underlying32 (by kernel_rfl) rfl (by decide)
def itmC (s : Itm) : Array Value := #[.int .u64 s.time, .int .u64 s.order, .int .i64 s.to, .string s.data]

theorem cell_keep {w w' : World} {a : Addr} {v : Value} (h : Fr [] w w') (hc : w.cell? a = some v) : w'.cell? a = some v :=
  (World.cell?_of_block (w := w) (h.block _ (World.block_lt_of_cell? w a hc) (by simp))).trans hc

theorem mn_nat (n : Nat) : ∃ m : Nat, mnI (n : Int) 200 = (m : Int) ∧ m ≤ n ∧ m ≤ 200 := by
  unfold mnI
  by_cases h : (200 : Int) < n
  · exact ⟨200, by rw [if_pos h]; rfl, by omega, by omega⟩
  · exact ⟨n, by rw [if_neg h], Nat.le_refl _, by omega⟩

theorem popL (w0 : World) (q : Nat) (v : Value) (t o d : Int) (s : ByteArray) (S : List Itm) (last : Int) (w : World) (h : QW w0 w q v (⟨t, o, d, s⟩ :: S) last) :
    Calls Try.prog 11 #[.pointer (some ⟨q, 0, none⟩)] w fun e w' => e = .returned (.tuple #[.agg #[.int .u64 t, .int .u64 o, .int .i64 d, .string s], .bool true]) ∧ ∃ v', Hid (QW w0 w' q v' S last) ∧ Hid (Kept q v w v' w') := wPop w0 q v ⟨t, o, d, s⟩ S last w h

/-- The state of the second loop. -/
structure R2 (w1 w : World) (q : Nat) (v : Value) (S : List Itm) (last : Int) (z : List Int) (n b8 gm i : Nat) (mb : List Bool) (la : Itm) : Prop where
  qw : QW w1 w q v S last
  pops : Pops z n i S mb la
  blkL : Blk w b8 (itmC la) 31
  blkM : Blk w gm (bools mb) 4
  aL : Away b8 w q v
  aM : Away gm w q v
  ne : b8 ≠ gm
  newL : w1.heap.size ≤ b8
  newM : w1.heap.size ≤ gm

theorem R2.start {w1 wr w4 : World} {q n gm : Nat} {v : Value} {S : List Itm} {last : Int} {z : List Int} (hQ : QW w1 wr q v S last) (hS : S.Perm (itms z n))
    (HF : Fr [] (wr.alloc (.cells (itmC it0) 31)) w4) (hB : Blk w4 gm (Array.replicate n (.bool false)) 4) (hg : gm = (wr.alloc (.cells (itmC it0) 31)).heap.size) :
    R2 w1 w4 q v S last z n wr.heap.size gm 0 (List.replicate n false) it0 := by
  have hF : Fr [] wr w4 := ((Fr.refl _ _).alloc _).trans0 HF
  have hg' : gm = wr.heap.size + 1 := by simpa using hg
  have hlt := hB.lt
  obtain ⟨L, hL, hO⟩ := hQ.qs
  exact ⟨hQ.fr0 hF, Pops.start hS hO.uniq hO.sorted, (Blk.new _ _ _).fr0 HF, by rw [← bools_new]; exact hB, hQ.qs.away (Nat.le_refl _) (by omega), hQ.qs.away (by omega) hlt, by omega, hQ.fr.size, by have := hQ.fr.size; omega⟩

theorem R2.step {w1 w w5 : World} {q n b8 gm i j : Nat} {v v5 : Value} {S : List Itm} {last t : Int} {z : List Int} {mb : List Bool} {la : Itm} {s : ByteArray}
    (h : R2 w1 w q v (⟨t, (j : Int) + 1, j, s⟩ :: S) last z n b8 gm i mb la) (e : (⟨t, (j : Int) + 1, j, s⟩ : Itm) = itm z j) (hq : QW w1 w5 q v5 S last) (bM : Blk w5 gm (bools mb) 4) (bL : Blk w5 b8 (itmC la) 31) (aM : Away gm w5 q v5) (aL : Away b8 w5 q v5) :
    R2 w1 ((((((w5.alloc (.cells #[.int .u64 t, .int .u64 ((j : Int) + 1), .int .i64 j, .string s] 31)).setCell ⟨gm, j, none⟩ (.bool true)).setCell ⟨b8, 0, none⟩ (.int .u64 t)).setCell ⟨b8, 1, none⟩ (.int .u64 ((j : Int) + 1))).setCell ⟨b8, 2, none⟩ (.int .i64 j)).setCell ⟨b8, 3, none⟩ (.string s))
      q v5 S last z n b8 gm (i + 1) (mb.set j true) ⟨t, (j : Int) + 1, j, s⟩ := by
  have hne := h.ne
  have FF : Fr [gm, b8] w5 ((((((w5.alloc (.cells #[.int .u64 t, .int .u64 ((j : Int) + 1), .int .i64 j, .string s] 31)).setCell ⟨gm, j, none⟩ (.bool true)).setCell ⟨b8, 0, none⟩ (.int .u64 t)).setCell ⟨b8, 1, none⟩ (.int .u64 ((j : Int) + 1))).setCell ⟨b8, 2, none⟩ (.int .i64 j)).setCell ⟨b8, 3, none⟩ (.string s)) :=
    (((((((Fr.refl [gm, b8] w5).alloc _).setCell (.inl (by simp)) _).setCell (.inl (by simp)) _).setCell (.inl (by simp)) _).setCell (.inl (by simp)) _).setCell (.inl (by simp)) _)
  have hqs := hq.qs.fr FF (by simp; exact ⟨fun e => aM.2.1 e.symm, fun e => aL.2.1 e.symm⟩) (fun x hx e => by
    simp at e
    rcases e with rfl | rfl
    · exact aM.2.2 hx
    · exact aL.2.2 hx)
  refine ⟨⟨hqs, hq.hq, hq.own, hq.fr.trans FF (fun x hx => ?_)⟩, h.pops.step e, ?_, ?_, ⟨Nat.lt_of_lt_of_le aL.1 FF.size, aL.2⟩, ⟨Nat.lt_of_lt_of_le aM.1 FF.size, aM.2⟩, hne, h.newL, h.newM⟩
  · simp at hx
    rcases hx with rfl | rfl
    · exact .inr h.newM
    · exact .inr h.newL
  · exact (((((bL.alloc _).far (p := ⟨gm, j, none⟩) hne _).set 0 _).set 1 _).set 2 _).set 3 _
  · rw [← bools_set]
    exact (((((bM.alloc _).set j _).far (p := ⟨b8, 0, none⟩) (fun e => hne e.symm) _).far (p := ⟨b8, 1, none⟩) (fun e => hne e.symm) _).far (p := ⟨b8, 2, none⟩) (fun e => hne e.symm) _).far (p := ⟨b8, 3, none⟩) (fun e => hne e.symm) _

theorem R2.drew {w1 w : World} {q n b8 gm i : Nat} {v : Value} {S : List Itm} {last : Int} {z : List Int} {mb : List Bool} {la : Itm} (h : R2 w1 w q v S last z n b8 gm i mb la) : R2 w1 w.drew q v S last z n b8 gm i mb la :=
  ⟨h.qw.fr0 (Fr.refl _ _).drew, h.pops, h.blkL, h.blkM, h.aL, h.aM, h.ne, h.newL, h.newM⟩

set_option maxRecDepth 100000 in
set_option maxHeartbeats 40000000 in
theorem walkRow (x : Addr) (len cap : Nat) (z : List Int) (w : World) (hlc : len ≤ cap) (_ : cap ≤ maxLen) (hz : z.length = cap) (hcell : ∀ i, i < z.length → w.cell? (x.add i) = some (.int .u8 (z.getD i 0))) (hwf : ∀ n ∈ z, (Lit.int .u8 n).wf = true) :
    Calls Try.prog 3 #[.slice (some x) len cap] w fun e w' => e = .returned (.bool true) ∧ Fr [] w w' := by
  obtain ⟨n, hmn, hnl, hn200⟩ := mn_nat len
  have hnc : n ≤ cap := by omega
  have HC : Hid (∀ i, i < n → w.cell? (x.add i) = some (.int .u8 (z.getD i 0)) ∧ 0 ≤ z.getD i 0 ∧ z.getD i 0 ≤ 255) := by
    intro i hi
    refine ⟨hcell i (by omega), bounds_u8 (hwf _ ?_)⟩
    rw [List.getD_eq_getElem?_getD, List.getElem?_eq_getElem (by omega)]
    exact List.getElem_mem _
  clear hcell hwf hz
  go_enter Try.func3, Try.ntmps3
  go_wp2_with fail
  refine (fExamples w).mono ?_
  rintro e w1 ⟨rfl, f1⟩
  go_wp2_with fail
  refine (wNew w1).mono ?_
  rintro e w2 ⟨q, rfl, H2⟩
  have HF1 := Lib.hid f1
  clear f1
  go_wp2_with fail
  clear hmn
  go_loopw [5, 6, 7] (fun i _ _ wr => ∃ (k : Nat) (v : Value) (S : List Itm), k ≤ n ∧ i = .int .i64 k ∧ Hid (QW w1 wr q v S k) ∧ Hid (S.Perm (itms z k))) (fun i _ _ _ => n - (intOf i).toNat)
  case atStart => exact ⟨0, _, [], by omega, rfl, H2, .refl _⟩
  case round =>
    obtain ⟨k, v, S, hk, rfl, HQ, HS⟩ := hrel
    by_cases hlt : k < n
    · obtain ⟨hc0, hb0, hb1⟩ := HC.out k hlt
      have hcc := cell_keep (HF1.out.trans0 HQ.out.fr) hc0
      have HX : ∃ t, Hid (z.getD k 0 = t) := ⟨_, rfl⟩
      obtain ⟨t, HX⟩ := HX
      rw [HX.out] at hcc hb0 hb1
      have hlen : S.length < 4096 := by rw [HS.out.length_eq, itms_len]; omega
      have HAd := Lib.hid (add_perm HS.out)
      unfold itm at HAd
      rw [HX.out] at HAd
      clear hc0
      go_wp2_with fail
      refine (wAdd w1 q v S _ k (k + 1) t k ⟨#[120]⟩ _ HQ.out hlen (by omega) rfl rfl).mono ?_
      rintro e w3 ⟨rfl, v3, H3, -⟩
      go_wp2_with fail
      go_roundw
      case rel => exact ⟨k + 1, v3, _, by omega, by go_num, by simpa using H3, HAd⟩
      case measure => simp [intOf]; omega
    · have HK : Hid (k = n) := by show k = n; omega
      have hnk : n ≤ maxLen := by unfold maxLen; omega
      go_wp2_with (refine wpList_makeN boolT rfl (.tmp 54) (.tmp 54) n .i64 .i64 rfl rfl (by omega) hnk ?_; intro gm w4 Hg HB HFm)
      have HS0 := Lib.hid (R2.start (HF := HFm.out) (hB := HB.out) (hg := Hg.out) HQ.out (by rw [← HK.out]; exact HS.out))
      generalize wr.heap.size = b8 at *
      clear HB HFm Hg
      go_loopw [10, 11, 12] (fun iv _ _ wr => ∃ (i : Nat) (v : Value) (S : List Itm) (mb : List Bool) (la : Itm), i ≤ n ∧ iv = .int .i64 i ∧ Hid (R2 w1 wr q v S k z n b8 gm i mb la)) (fun iv _ _ _ => n - (intOf iv).toNat)
      case atStart => exact ⟨0, v, S, _, _, by omega, rfl, HS0⟩
      case round =>
        obtain ⟨i, v, S, mb, la, hi, rfl, HR⟩ := hrel
        by_cases hlt2 : i < n
        · have hSl := HR.out.pops.len
          cases S with
          | nil => simp at hSl; omega
          | cons s S2 =>
            clear hSl
            obtain ⟨j, hj, es, hmj⟩ := HR.out.pops.from_ s (by simp)
            have hbef := fun h => HR.out.pops.bef h s (by simp)
            obtain ⟨hc0, hb0, hb1⟩ := HC.out j hj
            have hcj := Lib.hid hc0
            have hmj := Lib.hid hmj
            obtain ⟨lt, lo, ld, ls⟩ := la
            unfold itm at es
            obtain ⟨t, ht⟩ : ∃ t, z.getD j 0 = t := ⟨_, rfl⟩
            have HZ := Lib.hid ht
            rw [ht] at es hb0 hb1 hcj
            clear hc0 ht
            subst es
            unfold Bef at hbef
            dsimp only at hbef
            have hn1 : (t != t) = false := by simp
            have wt : IntKind.u64.wrap t = t := by first | (simp [IntKind.wrap, IntKind.bits, IntKind.signed]; done) | (simp [IntKind.wrap, IntKind.bits, IntKind.signed]; omega)
            have wj : IntKind.u64.wrap ((j : Int) + 1) = (j : Int) + 1 := by first | (simp [IntKind.wrap, IntKind.bits, IntKind.signed]; done) | (simp [IntKind.wrap, IntKind.bits, IntKind.signed]; omega)
            have wi : IntKind.i64.wrap ((j : Int) + 1) = (j : Int) + 1 := IntWalk.i64_in _ (by omega)
            have dj : decide ((j : Int) < 0) = false := by simp
            have dn : decide (n ≤ j) = false := by first | (simp; done) | (simp; omega)
            have hn2 : ((j : Int) + 1 != (j : Int) + 1) = false := by simp
            by_cases h0 : i = 0
            · have hi1 : decide (0 < (i : Int)) = false := by first | (simp; done) | (simp; omega)
              have hi2 : decide (0 < i) = false := by first | (simp; done) | (simp; omega)
              have HI0 := Lib.hid h0
              clear hbef h0
              go_wp2_with fail
              refine (popL w1 q v t ((j : Int) + 1) j ⟨#[120]⟩ S2 _ _ HR.out.qw).mono ?_
              rintro e w5 ⟨rfl, v5, H5, K5⟩
              have aM5 := HR.out.aM.kept K5.out
              have aL5 := HR.out.aL.kept K5.out
              have bM := HR.out.aM.blk HR.out.blkM K5.out
              have bL := HR.out.aL.blk HR.out.blkL K5.out
              have hcc : ∀ o, (w5.alloc o).cell? (x.add j) = some (.int .u8 t) := fun o => cell_keep ((HF1.out.trans0 H5.out.fr).alloc o) hcj.out
              have m0 : ∀ o, (w5.alloc o).cell? ⟨gm, j, none⟩ = some (.bool false) := fun o => (bM.alloc o).cellAt (bools_get hmj.out)
              have m1 : ∀ o, (w5.alloc o).frozen? ⟨gm, j, none⟩ = false := fun o => (bM.alloc o).froz j
              have l0 : ∀ o, (w5.alloc o).cell? ⟨b8, 0, none⟩ = some (.int .u64 lt) := fun o => (bL.alloc o).cellAt (i := 0) rfl
              have l1 : ∀ o, (w5.alloc o).cell? ⟨b8, 1, none⟩ = some (.int .u64 lo) := fun o => (bL.alloc o).cellAt (i := 1) rfl
              have l2 : ∀ o, (w5.alloc o).cell? ⟨b8, 2, none⟩ = some (.int .i64 ld) := fun o => (bL.alloc o).cellAt (i := 2) rfl
              have l3 : ∀ o, (w5.alloc o).cell? ⟨b8, 3, none⟩ = some (.string ls) := fun o => (bL.alloc o).cellAt (i := 3) rfl
              have g0 : ∀ o, (w5.alloc o).frozen? ⟨b8, 0, none⟩ = false := fun o => (bL.alloc o).froz 0
              have g1 : ∀ o, (w5.alloc o).frozen? ⟨b8, 1, none⟩ = false := fun o => (bL.alloc o).froz 1
              have g2 : ∀ o, (w5.alloc o).frozen? ⟨b8, 2, none⟩ = false := fun o => (bL.alloc o).froz 2
              have g3 : ∀ o, (w5.alloc o).frozen? ⟨b8, 3, none⟩ = false := fun o => (bL.alloc o).froz 3
              have hgm : ¬ gm = w5.heap.size := by have := bM.lt; omega
              have hgm' : ¬ w5.heap.size = gm := fun h => hgm h.symm
              have hb8 : ¬ b8 = w5.heap.size := by have := bL.lt; omega
              have hb8' : ¬ w5.heap.size = b8 := fun h => hb8 h.symm
              have hne : ¬ b8 = gm := HR.out.ne
              have hne' : ¬ gm = b8 := fun h => hne h.symm
              have HBM := Lib.hid bM
              have HBL := Lib.hid bL
              have HA5 := Lib.hid aM5
              have HL5 := Lib.hid aL5
              clear bM bL aM5 aL5
              go_wp2_with fail
              refine wp_region_held_drew (S := (fun w' => w'.cell? ⟨w5.heap.size, 0, none⟩ = some (.int .u64 t) ∧ w'.cell? ⟨w5.heap.size, 1, none⟩ = some (.int .u64 ((j : Int) + 1)) ∧ w'.cell? ⟨w5.heap.size, 2, none⟩ = some (.int .i64 j) ∧ w'.cell? (x.add j) = some (.int .u8 t) ∧ w'.cell? ⟨gm, j, none⟩ = some (.bool false) ∧ w'.cell? ⟨b8, 0, none⟩ = some (.int .u64 lt) ∧ w'.cell? ⟨b8, 1, none⟩ = some (.int .u64 lo))) (by kernel_rfl) ?_ (fun hHeld => ?_)
              · go_keep
              refine' wpAnyH_take (i := 0) ?_ ?_ ?_ ?_ ?_ ?_ ?_ ?_
              rotate_left 2
              · (simp only [List.getElem?_toArray]; rfl)
              · kernel_rfl
              · decide +kernel
              · decide +kernel
              · exact fun _ _ _ h => h
              · (refine Or.inl ⟨by kernel_rfl, ?_⟩; intro w hSw; (try dsimp only at hSw); go_simp; first | done | with_reducible rfl)
              · assumption
              simp only [Act.put, List.setIfInBounds_toArray, List.set_cons_zero, List.set_cons_succ]
              refine' wpAnyH_take (i := 1) ?_ ?_ ?_ ?_ ?_ ?_ ?_ ?_
              rotate_left 2
              · (simp only [List.getElem?_toArray]; rfl)
              · kernel_rfl
              · decide +kernel
              · decide +kernel
              · exact fun _ _ _ h => h
              · (refine Or.inl ⟨by kernel_rfl, ?_⟩; intro w hSw; (try dsimp only at hSw); go_simp; first | done | with_reducible rfl)
              · assumption
              simp only [Act.put, List.setIfInBounds_toArray, List.set_cons_zero, List.set_cons_succ]
              refine' wpAnyH_take (i := 2) ?_ ?_ ?_ ?_ ?_ ?_ ?_ ?_
              rotate_left 2
              · (simp only [List.getElem?_toArray]; rfl)
              · kernel_rfl
              · decide +kernel
              · decide +kernel
              · exact fun _ _ _ h => h
              · (refine Or.inl ⟨by kernel_rfl, ?_⟩; intro w hSw; (try dsimp only at hSw); go_simp; first | done | with_reducible rfl)
              · assumption
              simp only [Act.put, List.setIfInBounds_toArray, List.set_cons_zero, List.set_cons_succ]
              refine' wpAnyH_take (i := 3) ?_ ?_ ?_ ?_ ?_ ?_ ?_ ?_
              rotate_left 2
              · (simp only [List.getElem?_toArray]; rfl)
              · kernel_rfl
              · decide +kernel
              · decide +kernel
              · exact fun _ _ _ h => h
              · (refine Or.inl ⟨by kernel_rfl, ?_⟩; intro w hSw; (try dsimp only at hSw); go_simp; first | done | with_reducible rfl)
              · assumption
              simp only [Act.put, List.setIfInBounds_toArray, List.set_cons_zero, List.set_cons_succ]
              refine' wpAnyH_take (i := 4) ?_ ?_ ?_ ?_ ?_ ?_ ?_ ?_
              rotate_left 2
              · (simp only [List.getElem?_toArray]; rfl)
              · kernel_rfl
              · decide +kernel
              · decide +kernel
              · exact fun _ _ _ h => h
              · (refine Or.inl ⟨by kernel_rfl, ?_⟩; intro w hSw; (try dsimp only at hSw); go_simp; first | done | with_reducible rfl)
              · assumption
              simp only [Act.put, List.setIfInBounds_toArray, List.set_cons_zero, List.set_cons_succ]
              refine' wpAnyH_take (i := 5) ?_ ?_ ?_ ?_ ?_ ?_ ?_ ?_
              rotate_left 2
              · (simp only [List.getElem?_toArray]; rfl)
              · kernel_rfl
              · decide +kernel
              · decide +kernel
              · exact fun _ _ _ h => h
              · (refine Or.inl ⟨by kernel_rfl, ?_⟩; intro w hSw; (try dsimp only at hSw); go_simp; first | done | with_reducible rfl)
              · assumption
              simp only [Act.put, List.setIfInBounds_toArray, List.set_cons_zero, List.set_cons_succ]
              refine' wpAnyH_take (i := 6) ?_ ?_ ?_ ?_ ?_ ?_ ?_ ?_
              rotate_left 2
              · (simp only [List.getElem?_toArray]; rfl)
              · kernel_rfl
              · decide +kernel
              · decide +kernel
              · exact fun _ _ _ h => h
              · (refine Or.inl ⟨by kernel_rfl, ?_⟩; intro w hSw; (try dsimp only at hSw); go_simp; first | done | with_reducible rfl)
              · assumption
              simp only [Act.put, List.setIfInBounds_toArray, List.set_cons_zero, List.set_cons_succ]
              refine' wpAnyH_take (i := 7) ?_ ?_ ?_ ?_ ?_ ?_ ?_ ?_
              rotate_left 2
              · (simp only [List.getElem?_toArray]; rfl)
              · kernel_rfl
              · decide +kernel
              · decide +kernel
              · exact fun _ _ _ h => h
              · (refine Or.inl ⟨by kernel_rfl, ?_⟩; intro w hSw; (try dsimp only at hSw); go_simp; first | done | with_reducible rfl)
              · assumption
              simp only [Act.put, List.setIfInBounds_toArray, List.set_cons_zero, List.set_cons_succ]
              refine' wpAnyH_take (i := 8) ?_ ?_ ?_ ?_ ?_ ?_ ?_ ?_
              rotate_left 2
              · (simp only [List.getElem?_toArray]; rfl)
              · kernel_rfl
              · decide +kernel
              · decide +kernel
              · exact fun _ _ _ h => h
              · (refine Or.inl ⟨by kernel_rfl, ?_⟩; intro w hSw; (try dsimp only at hSw); go_simp; first | done | with_reducible rfl)
              · assumption
              simp only [Act.put, List.setIfInBounds_toArray, List.set_cons_zero, List.set_cons_succ]
              refine' wpAnyH_take (i := 9) ?_ ?_ ?_ ?_ ?_ ?_ ?_ ?_
              rotate_left 2
              · (simp only [List.getElem?_toArray]; rfl)
              · kernel_rfl
              · decide +kernel
              · decide +kernel
              · exact fun _ _ _ h => h
              · (refine Or.inl ⟨by kernel_rfl, ?_⟩; intro w hSw; (try dsimp only at hSw); go_simp; first | done | with_reducible rfl)
              · assumption
              simp only [Act.put, List.setIfInBounds_toArray, List.set_cons_zero, List.set_cons_succ]
              refine' wpAnyH_take (i := 10) ?_ ?_ ?_ ?_ ?_ ?_ ?_ ?_
              rotate_left 2
              · (simp only [List.getElem?_toArray]; rfl)
              · kernel_rfl
              · decide +kernel
              · decide +kernel
              · exact fun _ _ _ h => h
              · (refine Or.inl ⟨by kernel_rfl, ?_⟩; intro w hSw; (try dsimp only at hSw); go_simp; first | done | with_reducible rfl)
              · assumption
              simp only [Act.put, List.setIfInBounds_toArray, List.set_cons_zero, List.set_cons_succ]
              refine' wpAnyH_take (i := 11) ?_ ?_ ?_ ?_ ?_ ?_ ?_ ?_
              rotate_left 2
              · (simp only [List.getElem?_toArray]; rfl)
              · kernel_rfl
              · decide +kernel
              · decide +kernel
              · exact fun _ _ _ h => h
              · (refine Or.inl ⟨by kernel_rfl, ?_⟩; intro w hSw; (try dsimp only at hSw); go_simp; first | done | with_reducible rfl)
              · assumption
              simp only [Act.put, List.setIfInBounds_toArray, List.set_cons_zero, List.set_cons_succ]
              refine' wpAnyH_take (i := 12) ?_ ?_ ?_ ?_ ?_ ?_ ?_ ?_
              rotate_left 2
              · (simp only [List.getElem?_toArray]; rfl)
              · kernel_rfl
              · decide +kernel
              · decide +kernel
              · exact fun _ _ _ h => h
              · (refine Or.inl ⟨by kernel_rfl, ?_⟩; intro w hSw; (try dsimp only at hSw); go_simp; first | done | with_reducible rfl)
              · assumption
              simp only [Act.put, List.setIfInBounds_toArray, List.set_cons_zero, List.set_cons_succ]
              refine' wpAnyH_take (i := 13) ?_ ?_ ?_ ?_ ?_ ?_ ?_ ?_
              rotate_left 2
              · (simp only [List.getElem?_toArray]; rfl)
              · kernel_rfl
              · decide +kernel
              · decide +kernel
              · exact fun _ _ _ h => h
              · (refine Or.inl ⟨by kernel_rfl, ?_⟩; intro w hSw; (try dsimp only at hSw); go_simp; first | done | with_reducible rfl)
              · assumption
              simp only [Act.put, List.setIfInBounds_toArray, List.set_cons_zero, List.set_cons_succ]
              refine' wpAnyH_take (i := 14) ?_ ?_ ?_ ?_ ?_ ?_ ?_ ?_
              rotate_left 2
              · (simp only [List.getElem?_toArray]; rfl)
              · kernel_rfl
              · decide +kernel
              · decide +kernel
              · exact fun _ _ _ h => h
              · (refine Or.inl ⟨by kernel_rfl, ?_⟩; intro w hSw; (try dsimp only at hSw); go_simp; first | done | with_reducible rfl)
              · assumption
              simp only [Act.put, List.setIfInBounds_toArray, List.set_cons_zero, List.set_cons_succ]
              refine' wpAnyH_take (i := 15) ?_ ?_ ?_ ?_ ?_ ?_ ?_ ?_
              rotate_left 2
              · (simp only [List.getElem?_toArray]; rfl)
              · kernel_rfl
              · decide +kernel
              · decide +kernel
              · exact fun _ _ _ h => h
              · (refine Or.inl ⟨by kernel_rfl, ?_⟩; intro w hSw; (try dsimp only at hSw); go_simp; first | done | with_reducible rfl)
              · assumption
              simp only [Act.put, List.setIfInBounds_toArray, List.set_cons_zero, List.set_cons_succ]
              refine' wpAnyH_take (i := 16) ?_ ?_ ?_ ?_ ?_ ?_ ?_ ?_
              rotate_left 2
              · (simp only [List.getElem?_toArray]; rfl)
              · kernel_rfl
              · decide +kernel
              · decide +kernel
              · exact fun _ _ _ h => h
              · (refine Or.inl ⟨by kernel_rfl, ?_⟩; intro w hSw; (try dsimp only at hSw); go_simp; first | done | with_reducible rfl)
              · assumption
              simp only [Act.put, List.setIfInBounds_toArray, List.set_cons_zero, List.set_cons_succ]
              refine' wpAnyH_take (i := 17) ?_ ?_ ?_ ?_ ?_ ?_ ?_ ?_
              rotate_left 2
              · (simp only [List.getElem?_toArray]; rfl)
              · kernel_rfl
              · decide +kernel
              · decide +kernel
              · exact fun _ _ _ h => h
              · (refine Or.inl ⟨by kernel_rfl, ?_⟩; intro w hSw; (try dsimp only at hSw); go_simp; first | done | with_reducible rfl)
              · assumption
              simp only [Act.put, List.setIfInBounds_toArray, List.set_cons_zero, List.set_cons_succ]
              refine' wpAnyH_take (i := 18) ?_ ?_ ?_ ?_ ?_ ?_ ?_ ?_
              rotate_left 2
              · (simp only [List.getElem?_toArray]; rfl)
              · kernel_rfl
              · decide +kernel
              · decide +kernel
              · exact fun _ _ _ h => h
              · (refine Or.inl ⟨by kernel_rfl, ?_⟩; intro w hSw; (try dsimp only at hSw); go_simp; first | done | with_reducible rfl)
              · assumption
              simp only [Act.put, List.setIfInBounds_toArray, List.set_cons_zero, List.set_cons_succ]
              refine' wpAnyH_take (i := 19) ?_ ?_ ?_ ?_ ?_ ?_ ?_ ?_
              rotate_left 2
              · (simp only [List.getElem?_toArray]; rfl)
              · kernel_rfl
              · decide +kernel
              · decide +kernel
              · exact fun _ _ _ h => h
              · (refine Or.inl ⟨by kernel_rfl, ?_⟩; intro w hSw; (try dsimp only at hSw); go_simp; first | done | with_reducible rfl)
              · assumption
              simp only [Act.put, List.setIfInBounds_toArray, List.set_cons_zero, List.set_cons_succ]
              refine' wpAnyH_take (i := 20) ?_ ?_ ?_ ?_ ?_ ?_ ?_ ?_
              rotate_left 2
              · (simp only [List.getElem?_toArray]; rfl)
              · kernel_rfl
              · decide +kernel
              · decide +kernel
              · exact fun _ _ _ h => h
              · (refine Or.inl ⟨by kernel_rfl, ?_⟩; intro w hSw; (try dsimp only at hSw); go_simp; first | done | with_reducible rfl)
              · assumption
              simp only [Act.put, List.setIfInBounds_toArray, List.set_cons_zero, List.set_cons_succ]
              refine' wpAnyH_take (i := 21) ?_ ?_ ?_ ?_ ?_ ?_ ?_ ?_
              rotate_left 2
              · (simp only [List.getElem?_toArray]; rfl)
              · kernel_rfl
              · decide +kernel
              · decide +kernel
              · exact fun _ _ _ h => h
              · (refine Or.inl ⟨by kernel_rfl, ?_⟩; intro w hSw; (try dsimp only at hSw); go_simp; first | done | with_reducible rfl)
              · assumption
              simp only [Act.put, List.setIfInBounds_toArray, List.set_cons_zero, List.set_cons_succ]
              refine' wpAnyH_take (i := 22) ?_ ?_ ?_ ?_ ?_ ?_ ?_ ?_
              rotate_left 2
              · (simp only [List.getElem?_toArray]; rfl)
              · kernel_rfl
              · decide +kernel
              · decide +kernel
              · exact fun _ _ _ h => h
              · (refine Or.inl ⟨by kernel_rfl, ?_⟩; intro w hSw; (try dsimp only at hSw); go_simp; first | done | with_reducible rfl)
              · assumption
              simp only [Act.put, List.setIfInBounds_toArray, List.set_cons_zero, List.set_cons_succ]
              refine' wpAnyH_take (i := 23) ?_ ?_ ?_ ?_ ?_ ?_ ?_ ?_
              rotate_left 2
              · (simp only [List.getElem?_toArray]; rfl)
              · kernel_rfl
              · decide +kernel
              · decide +kernel
              · exact fun _ _ _ h => h
              · (refine Or.inl ⟨by kernel_rfl, ?_⟩; intro w hSw; (try dsimp only at hSw); go_simp; first | done | with_reducible rfl)
              · assumption
              simp only [Act.put, List.setIfInBounds_toArray, List.set_cons_zero, List.set_cons_succ]
              refine' wpAnyH_take (i := 24) ?_ ?_ ?_ ?_ ?_ ?_ ?_ ?_
              rotate_left 2
              · (simp only [List.getElem?_toArray]; rfl)
              · kernel_rfl
              · decide +kernel
              · decide +kernel
              · exact fun _ _ _ h => h
              · (refine Or.inl ⟨by kernel_rfl, ?_⟩; intro w hSw; (try dsimp only at hSw); go_simp; first | done | with_reducible rfl)
              · assumption
              simp only [Act.put, List.setIfInBounds_toArray, List.set_cons_zero, List.set_cons_succ]
              refine' wpAnyH_take (i := 25) ?_ ?_ ?_ ?_ ?_ ?_ ?_ ?_
              rotate_left 2
              · (simp only [List.getElem?_toArray]; rfl)
              · kernel_rfl
              · decide +kernel
              · decide +kernel
              · exact fun _ _ _ h => h
              · (refine Or.inl ⟨by kernel_rfl, ?_⟩; intro w hSw; (try dsimp only at hSw); go_simp; first | done | with_reducible rfl)
              · assumption
              simp only [Act.put, List.setIfInBounds_toArray, List.set_cons_zero, List.set_cons_succ]
              refine' wpAnyH_take (i := 26) ?_ ?_ ?_ ?_ ?_ ?_ ?_ ?_
              rotate_left 2
              · (simp only [List.getElem?_toArray]; rfl)
              · kernel_rfl
              · decide +kernel
              · decide +kernel
              · exact fun _ _ _ h => h
              · (refine Or.inl ⟨by kernel_rfl, ?_⟩; intro w hSw; (try dsimp only at hSw); go_simp; first | done | with_reducible rfl)
              · assumption
              simp only [Act.put, List.setIfInBounds_toArray, List.set_cons_zero, List.set_cons_succ]
              refine' wpAnyH_take (i := 27) ?_ ?_ ?_ ?_ ?_ ?_ ?_ ?_
              rotate_left 2
              · (simp only [List.getElem?_toArray]; rfl)
              · kernel_rfl
              · decide +kernel
              · decide +kernel
              · exact fun _ _ _ h => h
              · (refine Or.inl ⟨by kernel_rfl, ?_⟩; intro w hSw; (try dsimp only at hSw); go_simp; first | done | with_reducible rfl)
              · assumption
              simp only [Act.put, List.setIfInBounds_toArray, List.set_cons_zero, List.set_cons_succ]
              refine' wpAnyH_take (i := 28) ?_ ?_ ?_ ?_ ?_ ?_ ?_ ?_
              rotate_left 2
              · (simp only [List.getElem?_toArray]; rfl)
              · kernel_rfl
              · decide +kernel
              · decide +kernel
              · exact fun _ _ _ h => h
              · (refine Or.inl ⟨by kernel_rfl, ?_⟩; intro w hSw; (try dsimp only at hSw); go_simp; first | done | with_reducible rfl)
              · assumption
              simp only [Act.put, List.setIfInBounds_toArray, List.set_cons_zero, List.set_cons_succ]
              refine' wpAnyH_take (i := 29) ?_ ?_ ?_ ?_ ?_ ?_ ?_ ?_
              rotate_left 2
              · (simp only [List.getElem?_toArray]; rfl)
              · kernel_rfl
              · decide +kernel
              · decide +kernel
              · exact fun _ _ _ h => h
              · (refine Or.inl ⟨by kernel_rfl, ?_⟩; intro w hSw; (try dsimp only at hSw); go_simp; first | done | with_reducible rfl)
              · assumption
              simp only [Act.put, List.setIfInBounds_toArray, List.set_cons_zero, List.set_cons_succ]
              refine' wpAnyH_take (i := 30) ?_ ?_ ?_ ?_ ?_ ?_ ?_ ?_
              rotate_left 2
              · (simp only [List.getElem?_toArray]; rfl)
              · kernel_rfl
              · decide +kernel
              · decide +kernel
              · exact fun _ _ _ h => h
              · (refine Or.inl ⟨by kernel_rfl, ?_⟩; intro w hSw; (try dsimp only at hSw); go_simp; first | done | with_reducible rfl)
              · assumption
              simp only [Act.put, List.setIfInBounds_toArray, List.set_cons_zero, List.set_cons_succ]
              refine' wpAnyH_take (i := 31) ?_ ?_ ?_ ?_ ?_ ?_ ?_ ?_
              rotate_left 2
              · (simp only [List.getElem?_toArray]; rfl)
              · kernel_rfl
              · decide +kernel
              · decide +kernel
              · exact fun _ _ _ h => h
              · (refine Or.inl ⟨by kernel_rfl, ?_⟩; intro w hSw; (try dsimp only at hSw); go_simp; first | done | with_reducible rfl)
              · assumption
              simp only [Act.put, List.setIfInBounds_toArray, List.set_cons_zero, List.set_cons_succ]
              refine' wpAnyH_take (i := 32) ?_ ?_ ?_ ?_ ?_ ?_ ?_ ?_
              rotate_left 2
              · (simp only [List.getElem?_toArray]; rfl)
              · kernel_rfl
              · decide +kernel
              · decide +kernel
              · exact fun _ _ _ h => h
              · (refine Or.inl ⟨by kernel_rfl, ?_⟩; intro w hSw; (try dsimp only at hSw); go_simp; first | done | with_reducible rfl)
              · assumption
              simp only [Act.put, List.setIfInBounds_toArray, List.set_cons_zero, List.set_cons_succ]
              refine' wpAnyH_take (i := 33) ?_ ?_ ?_ ?_ ?_ ?_ ?_ ?_
              rotate_left 2
              · (simp only [List.getElem?_toArray]; rfl)
              · kernel_rfl
              · decide +kernel
              · decide +kernel
              · exact fun _ _ _ h => h
              · (refine Or.inl ⟨by kernel_rfl, ?_⟩; intro w hSw; (try dsimp only at hSw); go_simp; first | done | with_reducible rfl)
              · assumption
              simp only [Act.put, List.setIfInBounds_toArray, List.set_cons_zero, List.set_cons_succ]
              refine' wpAnyH_take (i := 34) ?_ ?_ ?_ ?_ ?_ ?_ ?_ ?_
              rotate_left 2
              · (simp only [List.getElem?_toArray]; rfl)
              · kernel_rfl
              · decide +kernel
              · decide +kernel
              · exact fun _ _ _ h => h
              · (refine Or.inl ⟨by kernel_rfl, ?_⟩; intro w hSw; (try dsimp only at hSw); go_simp; first | done | with_reducible rfl)
              · assumption
              simp only [Act.put, List.setIfInBounds_toArray, List.set_cons_zero, List.set_cons_succ]
              refine' wpAnyH_take (i := 35) ?_ ?_ ?_ ?_ ?_ ?_ ?_ ?_
              rotate_left 2
              · (simp only [List.getElem?_toArray]; rfl)
              · kernel_rfl
              · decide +kernel
              · decide +kernel
              · exact fun _ _ _ h => h
              · (refine Or.inl ⟨by kernel_rfl, ?_⟩; intro w hSw; (try dsimp only at hSw); go_simp; first | done | with_reducible rfl)
              · assumption
              simp only [Act.put, List.setIfInBounds_toArray, List.set_cons_zero, List.set_cons_succ]
              refine' wpAnyH_take (i := 36) ?_ ?_ ?_ ?_ ?_ ?_ ?_ ?_
              rotate_left 2
              · (simp only [List.getElem?_toArray]; rfl)
              · kernel_rfl
              · decide +kernel
              · decide +kernel
              · exact fun _ _ _ h => h
              · (refine Or.inl ⟨by kernel_rfl, ?_⟩; intro w hSw; (try dsimp only at hSw); go_simp; first | done | with_reducible rfl)
              · assumption
              simp only [Act.put, List.setIfInBounds_toArray, List.set_cons_zero, List.set_cons_succ]
              refine' wpAnyH_take (i := 37) ?_ ?_ ?_ ?_ ?_ ?_ ?_ ?_
              rotate_left 2
              · (simp only [List.getElem?_toArray]; rfl)
              · kernel_rfl
              · decide +kernel
              · decide +kernel
              · exact fun _ _ _ h => h
              · (refine Or.inl ⟨by kernel_rfl, ?_⟩; intro w hSw; (try dsimp only at hSw); go_simp; first | done | with_reducible rfl)
              · assumption
              simp only [Act.put, List.setIfInBounds_toArray, List.set_cons_zero, List.set_cons_succ]
              refine' wpAnyH_take (i := 38) ?_ ?_ ?_ ?_ ?_ ?_ ?_ ?_
              rotate_left 2
              · (simp only [List.getElem?_toArray]; rfl)
              · kernel_rfl
              · decide +kernel
              · decide +kernel
              · exact fun _ _ _ h => h
              · (refine Or.inl ⟨by kernel_rfl, ?_⟩; intro w hSw; (try dsimp only at hSw); go_simp; first | done | with_reducible rfl)
              · assumption
              simp only [Act.put, List.setIfInBounds_toArray, List.set_cons_zero, List.set_cons_succ]
              refine' wpAnyH_take (i := 39) ?_ ?_ ?_ ?_ ?_ ?_ ?_ ?_
              rotate_left 2
              · (simp only [List.getElem?_toArray]; rfl)
              · kernel_rfl
              · decide +kernel
              · decide +kernel
              · exact fun _ _ _ h => h
              · (refine Or.inl ⟨by kernel_rfl, ?_⟩; intro w hSw; (try dsimp only at hSw); go_simp; first | done | with_reducible rfl)
              · assumption
              simp only [Act.put, List.setIfInBounds_toArray, List.set_cons_zero, List.set_cons_succ]
              refine' wpAnyH_take (i := 40) ?_ ?_ ?_ ?_ ?_ ?_ ?_ ?_
              rotate_left 2
              · (simp only [List.getElem?_toArray]; rfl)
              · kernel_rfl
              · decide +kernel
              · decide +kernel
              · exact fun _ _ _ h => h
              · (refine Or.inl ⟨by kernel_rfl, ?_⟩; intro w hSw; (try dsimp only at hSw); go_simp; first | done | with_reducible rfl)
              · assumption
              simp only [Act.put, List.setIfInBounds_toArray, List.set_cons_zero, List.set_cons_succ]
              refine' wpAnyH_take (i := 41) ?_ ?_ ?_ ?_ ?_ ?_ ?_ ?_
              rotate_left 2
              · (simp only [List.getElem?_toArray]; rfl)
              · kernel_rfl
              · decide +kernel
              · decide +kernel
              · exact fun _ _ _ h => h
              · (refine Or.inl ⟨by kernel_rfl, ?_⟩; intro w hSw; (try dsimp only at hSw); go_simp; first | done | with_reducible rfl)
              · assumption
              simp only [Act.put, List.setIfInBounds_toArray, List.set_cons_zero, List.set_cons_succ]
              refine' wpAnyH_take (i := 42) ?_ ?_ ?_ ?_ ?_ ?_ ?_ ?_
              rotate_left 2
              · (simp only [List.getElem?_toArray]; rfl)
              · kernel_rfl
              · decide +kernel
              · decide +kernel
              · exact fun _ _ _ h => h
              · (refine Or.inl ⟨by kernel_rfl, ?_⟩; intro w hSw; (try dsimp only at hSw); go_simp; first | done | with_reducible rfl)
              · assumption
              simp only [Act.put, List.setIfInBounds_toArray, List.set_cons_zero, List.set_cons_succ]
              refine' wpAnyH_take (i := 43) ?_ ?_ ?_ ?_ ?_ ?_ ?_ ?_
              rotate_left 2
              · (simp only [List.getElem?_toArray]; rfl)
              · kernel_rfl
              · decide +kernel
              · decide +kernel
              · exact fun _ _ _ h => h
              · (refine Or.inl ⟨by kernel_rfl, ?_⟩; intro w hSw; (try dsimp only at hSw); go_simp; first | done | with_reducible rfl)
              · assumption
              simp only [Act.put, List.setIfInBounds_toArray, List.set_cons_zero, List.set_cons_succ]
              refine' wpAnyH_take (i := 44) ?_ ?_ ?_ ?_ ?_ ?_ ?_ ?_
              rotate_left 2
              · (simp only [List.getElem?_toArray]; rfl)
              · kernel_rfl
              · decide +kernel
              · decide +kernel
              · exact fun _ _ _ h => h
              · (refine Or.inl ⟨by kernel_rfl, ?_⟩; intro w hSw; (try dsimp only at hSw); go_simp; first | done | with_reducible rfl)
              · assumption
              simp only [Act.put, List.setIfInBounds_toArray, List.set_cons_zero, List.set_cons_succ]
              refine' wpAnyH_take (i := 45) ?_ ?_ ?_ ?_ ?_ ?_ ?_ ?_
              rotate_left 2
              · (simp only [List.getElem?_toArray]; rfl)
              · kernel_rfl
              · decide +kernel
              · decide +kernel
              · exact fun _ _ _ h => h
              · exact Or.inr ⟨by kernel_rfl, rfl⟩
              · assumption
              simp only [Act.put, List.setIfInBounds_toArray, List.set_cons_zero, List.set_cons_succ]
              refine' wpAnyH_take (i := 46) ?_ ?_ ?_ ?_ ?_ ?_ ?_ ?_
              rotate_left 2
              · (simp only [List.getElem?_toArray]; rfl)
              · kernel_rfl
              · decide +kernel
              · decide +kernel
              · exact fun _ _ _ h => h
              · exact Or.inr ⟨by kernel_rfl, rfl⟩
              · assumption
              simp only [Act.put, List.setIfInBounds_toArray, List.set_cons_zero, List.set_cons_succ]
              refine' wpAnyH_take (i := 47) ?_ ?_ ?_ ?_ ?_ ?_ ?_ ?_
              rotate_left 2
              · (simp only [List.getElem?_toArray]; rfl)
              · kernel_rfl
              · decide +kernel
              · decide +kernel
              · exact fun _ _ _ h => h
              · exact Or.inr ⟨by kernel_rfl, rfl⟩
              · assumption
              simp only [Act.put, List.setIfInBounds_toArray, List.set_cons_zero, List.set_cons_succ]
              refine' wpAnyH_take (i := 48) ?_ ?_ ?_ ?_ ?_ ?_ ?_ ?_
              rotate_left 2
              · (simp only [List.getElem?_toArray]; rfl)
              · kernel_rfl
              · decide +kernel
              · decide +kernel
              · exact fun _ _ _ h => h
              · exact Or.inr ⟨by kernel_rfl, rfl⟩
              · assumption
              simp only [Act.put, List.setIfInBounds_toArray, List.set_cons_zero, List.set_cons_succ]
              refine' wpAnyH_take (i := 49) ?_ ?_ ?_ ?_ ?_ ?_ ?_ ?_
              rotate_left 2
              · (simp only [List.getElem?_toArray]; rfl)
              · kernel_rfl
              · decide +kernel
              · decide +kernel
              · exact fun _ _ _ h => h
              · exact Or.inr ⟨by kernel_rfl, rfl⟩
              · assumption
              simp only [Act.put, List.setIfInBounds_toArray, List.set_cons_zero, List.set_cons_succ]
              refine' wpAnyH_take (i := 50) ?_ ?_ ?_ ?_ ?_ ?_ ?_ ?_
              rotate_left 2
              · (simp only [List.getElem?_toArray]; rfl)
              · kernel_rfl
              · decide +kernel
              · decide +kernel
              · exact fun _ _ _ h => h
              · exact Or.inr ⟨by kernel_rfl, rfl⟩
              · assumption
              simp only [Act.put, List.setIfInBounds_toArray, List.set_cons_zero, List.set_cons_succ]
              refine' wpAnyH_take (i := 51) ?_ ?_ ?_ ?_ ?_ ?_ ?_ ?_
              rotate_left 2
              · (simp only [List.getElem?_toArray]; rfl)
              · kernel_rfl
              · decide +kernel
              · decide +kernel
              · exact fun _ _ _ h => h
              · exact Or.inr ⟨by kernel_rfl, rfl⟩
              · assumption
              simp only [Act.put, List.setIfInBounds_toArray, List.set_cons_zero, List.set_cons_succ]
              refine' wpAnyH_take (i := 52) ?_ ?_ ?_ ?_ ?_ ?_ ?_ ?_
              rotate_left 2
              · (simp only [List.getElem?_toArray]; rfl)
              · kernel_rfl
              · decide +kernel
              · decide +kernel
              · exact fun _ _ _ h => h
              · exact Or.inr ⟨by kernel_rfl, rfl⟩
              · assumption
              simp only [Act.put, List.setIfInBounds_toArray, List.set_cons_zero, List.set_cons_succ]
              refine' wpAnyH_take (i := 53) ?_ ?_ ?_ ?_ ?_ ?_ ?_ ?_
              rotate_left 2
              · (simp only [List.getElem?_toArray]; rfl)
              · kernel_rfl
              · decide +kernel
              · decide +kernel
              · exact fun _ _ _ h => h
              · exact Or.inr ⟨by kernel_rfl, rfl⟩
              · assumption
              simp only [Act.put, List.setIfInBounds_toArray, List.set_cons_zero, List.set_cons_succ]
              refine' wpAnyH_take (i := 54) ?_ ?_ ?_ ?_ ?_ ?_ ?_ ?_
              rotate_left 2
              · (simp only [List.getElem?_toArray]; rfl)
              · kernel_rfl
              · decide +kernel
              · decide +kernel
              · exact fun _ _ _ h => h
              · exact Or.inr ⟨by kernel_rfl, rfl⟩
              · assumption
              simp only [Act.put, List.setIfInBounds_toArray, List.set_cons_zero, List.set_cons_succ]
              refine' wpAnyH_take (i := 55) ?_ ?_ ?_ ?_ ?_ ?_ ?_ ?_
              rotate_left 2
              · (simp only [List.getElem?_toArray]; rfl)
              · kernel_rfl
              · decide +kernel
              · decide +kernel
              · exact fun _ _ _ h => h
              · exact Or.inr ⟨by kernel_rfl, rfl⟩
              · assumption
              simp only [Act.put, List.setIfInBounds_toArray, List.set_cons_zero, List.set_cons_succ]
              refine' wpAnyH_take (i := 56) ?_ ?_ ?_ ?_ ?_ ?_ ?_ ?_
              rotate_left 2
              · (simp only [List.getElem?_toArray]; rfl)
              · kernel_rfl
              · decide +kernel
              · decide +kernel
              · exact fun _ _ _ h => h
              · exact Or.inr ⟨by kernel_rfl, rfl⟩
              · assumption
              simp only [Act.put, List.setIfInBounds_toArray, List.set_cons_zero, List.set_cons_succ]
              refine' wpAnyH_take (i := 57) ?_ ?_ ?_ ?_ ?_ ?_ ?_ ?_
              rotate_left 2
              · (simp only [List.getElem?_toArray]; rfl)
              · kernel_rfl
              · decide +kernel
              · decide +kernel
              · exact fun _ _ _ h => h
              · exact Or.inr ⟨by kernel_rfl, rfl⟩
              · assumption
              simp only [Act.put, List.setIfInBounds_toArray, List.set_cons_zero, List.set_cons_succ]
              refine' wpAnyH_take (i := 58) ?_ ?_ ?_ ?_ ?_ ?_ ?_ ?_
              rotate_left 2
              · (simp only [List.getElem?_toArray]; rfl)
              · kernel_rfl
              · decide +kernel
              · decide +kernel
              · exact fun _ _ _ h => h
              · exact Or.inr ⟨by kernel_rfl, rfl⟩
              · assumption
              simp only [Act.put, List.setIfInBounds_toArray, List.set_cons_zero, List.set_cons_succ]
              refine' wpAnyH_take (i := 59) ?_ ?_ ?_ ?_ ?_ ?_ ?_ ?_
              rotate_left 2
              · (simp only [List.getElem?_toArray]; rfl)
              · kernel_rfl
              · decide +kernel
              · decide +kernel
              · exact fun _ _ _ h => h
              · exact Or.inr ⟨by kernel_rfl, rfl⟩
              · assumption
              simp only [Act.put, List.setIfInBounds_toArray, List.set_cons_zero, List.set_cons_succ]
              refine' wpAnyH_take (i := 60) ?_ ?_ ?_ ?_ ?_ ?_ ?_ ?_
              rotate_left 2
              · (simp only [List.getElem?_toArray]; rfl)
              · kernel_rfl
              · decide +kernel
              · decide +kernel
              · exact fun _ _ _ h => h
              · exact Or.inr ⟨by kernel_rfl, rfl⟩
              · assumption
              simp only [Act.put, List.setIfInBounds_toArray, List.set_cons_zero, List.set_cons_succ]
              refine' wpAnyH_take (i := 61) ?_ ?_ ?_ ?_ ?_ ?_ ?_ ?_
              rotate_left 2
              · (simp only [List.getElem?_toArray]; rfl)
              · kernel_rfl
              · decide +kernel
              · decide +kernel
              · exact fun _ _ _ h => h
              · exact Or.inr ⟨by kernel_rfl, rfl⟩
              · assumption
              simp only [Act.put, List.setIfInBounds_toArray, List.set_cons_zero, List.set_cons_succ]
              refine' wpAnyH_take (i := 62) ?_ ?_ ?_ ?_ ?_ ?_ ?_ ?_
              rotate_left 2
              · (simp only [List.getElem?_toArray]; rfl)
              · kernel_rfl
              · decide +kernel
              · decide +kernel
              · exact fun _ _ _ h => h
              · exact Or.inr ⟨by kernel_rfl, rfl⟩
              · assumption
              simp only [Act.put, List.setIfInBounds_toArray, List.set_cons_zero, List.set_cons_succ]
              refine' wpAnyH_take (i := 63) ?_ ?_ ?_ ?_ ?_ ?_ ?_ ?_
              rotate_left 2
              · (simp only [List.getElem?_toArray]; rfl)
              · kernel_rfl
              · decide +kernel
              · decide +kernel
              · exact fun _ _ _ h => h
              · exact Or.inr ⟨by kernel_rfl, rfl⟩
              · assumption
              simp only [Act.put, List.setIfInBounds_toArray, List.set_cons_zero, List.set_cons_succ]
              refine' wpAnyH_take (i := 64) ?_ ?_ ?_ ?_ ?_ ?_ ?_ ?_
              rotate_left 2
              · (simp only [List.getElem?_toArray]; rfl)
              · kernel_rfl
              · decide +kernel
              · decide +kernel
              · exact fun _ _ _ h => h
              · (refine Or.inl ⟨by kernel_rfl, ?_⟩; intro w hSw; (try dsimp only at hSw); go_simp; first | done | with_reducible rfl)
              · assumption
              simp only [Act.put, List.setIfInBounds_toArray, List.set_cons_zero, List.set_cons_succ]
              refine' wpAnyH_take (i := 65) ?_ ?_ ?_ ?_ ?_ ?_ ?_ ?_
              rotate_left 2
              · (simp only [List.getElem?_toArray]; rfl)
              · kernel_rfl
              · decide +kernel
              · decide +kernel
              · exact fun _ _ _ h => h
              · (refine Or.inl ⟨by kernel_rfl, ?_⟩; intro w hSw; (try dsimp only at hSw); go_simp; first | done | with_reducible rfl)
              · assumption
              simp only [Act.put, List.setIfInBounds_toArray, List.set_cons_zero, List.set_cons_succ]
              refine wpAnyH_done (by kernel_rfl) ?_ _
              go_wp2_with fail
              have HW := Lib.hid (R2.drew (R2.step HR.out (by rw [← HZ.out]; rfl) H5.out HBM.out HBL.out HA5.out HL5.out))
              go_roundw
              case rel => exact ⟨i + 1, v5, S2, _, _, by omega, by go_num, HW⟩
              case measure => simp [intOf]; omega
            · have hi0 : 0 < i := by omega
              have hbef := hbef hi0
              have hi1 : decide (0 < (i : Int)) = true := by first | (simp; done) | (simp; omega)
              have hi2 : decide (0 < i) = true := by first | (simp; done) | (simp; omega)
              by_cases heq : t = lt
              · obtain rfl := heq
                have hlo : decide ((j : Int) + 1 < lo) = false := by first | (simp; done) | (simp; omega)
                have htt : (t == t) = true := by simp
                have hlt3 : decide (t < t) = false := by simp
                clear hbef h0
                go_wp2_with fail
                refine (popL w1 q v t ((j : Int) + 1) j ⟨#[120]⟩ S2 _ _ HR.out.qw).mono ?_
                rintro e w5 ⟨rfl, v5, H5, K5⟩
                have aM5 := HR.out.aM.kept K5.out
                have aL5 := HR.out.aL.kept K5.out
                have bM := HR.out.aM.blk HR.out.blkM K5.out
                have bL := HR.out.aL.blk HR.out.blkL K5.out
                have hcc : ∀ o, (w5.alloc o).cell? (x.add j) = some (.int .u8 t) := fun o => cell_keep ((HF1.out.trans0 H5.out.fr).alloc o) hcj.out
                have m0 : ∀ o, (w5.alloc o).cell? ⟨gm, j, none⟩ = some (.bool false) := fun o => (bM.alloc o).cellAt (bools_get hmj.out)
                have m1 : ∀ o, (w5.alloc o).frozen? ⟨gm, j, none⟩ = false := fun o => (bM.alloc o).froz j
                have l0 : ∀ o, (w5.alloc o).cell? ⟨b8, 0, none⟩ = some (.int .u64 t) := fun o => (bL.alloc o).cellAt (i := 0) rfl
                have l1 : ∀ o, (w5.alloc o).cell? ⟨b8, 1, none⟩ = some (.int .u64 lo) := fun o => (bL.alloc o).cellAt (i := 1) rfl
                have l2 : ∀ o, (w5.alloc o).cell? ⟨b8, 2, none⟩ = some (.int .i64 ld) := fun o => (bL.alloc o).cellAt (i := 2) rfl
                have l3 : ∀ o, (w5.alloc o).cell? ⟨b8, 3, none⟩ = some (.string ls) := fun o => (bL.alloc o).cellAt (i := 3) rfl
                have g0 : ∀ o, (w5.alloc o).frozen? ⟨b8, 0, none⟩ = false := fun o => (bL.alloc o).froz 0
                have g1 : ∀ o, (w5.alloc o).frozen? ⟨b8, 1, none⟩ = false := fun o => (bL.alloc o).froz 1
                have g2 : ∀ o, (w5.alloc o).frozen? ⟨b8, 2, none⟩ = false := fun o => (bL.alloc o).froz 2
                have g3 : ∀ o, (w5.alloc o).frozen? ⟨b8, 3, none⟩ = false := fun o => (bL.alloc o).froz 3
                have hgm : ¬ gm = w5.heap.size := by have := bM.lt; omega
                have hgm' : ¬ w5.heap.size = gm := fun h => hgm h.symm
                have hb8 : ¬ b8 = w5.heap.size := by have := bL.lt; omega
                have hb8' : ¬ w5.heap.size = b8 := fun h => hb8 h.symm
                have hne : ¬ b8 = gm := HR.out.ne
                have hne' : ¬ gm = b8 := fun h => hne h.symm
                have HBM := Lib.hid bM
                have HBL := Lib.hid bL
                have HA5 := Lib.hid aM5
                have HL5 := Lib.hid aL5
                clear bM bL aM5 aL5
                go_wp2_with fail
                refine wp_region_held_drew (S := (fun w' => w'.cell? ⟨w5.heap.size, 0, none⟩ = some (.int .u64 t) ∧ w'.cell? ⟨w5.heap.size, 1, none⟩ = some (.int .u64 ((j : Int) + 1)) ∧ w'.cell? ⟨w5.heap.size, 2, none⟩ = some (.int .i64 j) ∧ w'.cell? (x.add j) = some (.int .u8 t) ∧ w'.cell? ⟨gm, j, none⟩ = some (.bool false) ∧ w'.cell? ⟨b8, 0, none⟩ = some (.int .u64 t) ∧ w'.cell? ⟨b8, 1, none⟩ = some (.int .u64 lo))) (by kernel_rfl) ?_ (fun hHeld => ?_)
                · go_keep
                refine' wpAnyH_take (i := 0) ?_ ?_ ?_ ?_ ?_ ?_ ?_ ?_
                rotate_left 2
                · (simp only [List.getElem?_toArray]; rfl)
                · kernel_rfl
                · decide +kernel
                · decide +kernel
                · exact fun _ _ _ h => h
                · (refine Or.inl ⟨by kernel_rfl, ?_⟩; intro w hSw; (try dsimp only at hSw); go_simp; first | done | with_reducible rfl)
                · assumption
                simp only [Act.put, List.setIfInBounds_toArray, List.set_cons_zero, List.set_cons_succ]
                refine' wpAnyH_take (i := 1) ?_ ?_ ?_ ?_ ?_ ?_ ?_ ?_
                rotate_left 2
                · (simp only [List.getElem?_toArray]; rfl)
                · kernel_rfl
                · decide +kernel
                · decide +kernel
                · exact fun _ _ _ h => h
                · (refine Or.inl ⟨by kernel_rfl, ?_⟩; intro w hSw; (try dsimp only at hSw); go_simp; first | done | with_reducible rfl)
                · assumption
                simp only [Act.put, List.setIfInBounds_toArray, List.set_cons_zero, List.set_cons_succ]
                refine' wpAnyH_take (i := 2) ?_ ?_ ?_ ?_ ?_ ?_ ?_ ?_
                rotate_left 2
                · (simp only [List.getElem?_toArray]; rfl)
                · kernel_rfl
                · decide +kernel
                · decide +kernel
                · exact fun _ _ _ h => h
                · (refine Or.inl ⟨by kernel_rfl, ?_⟩; intro w hSw; (try dsimp only at hSw); go_simp; first | done | with_reducible rfl)
                · assumption
                simp only [Act.put, List.setIfInBounds_toArray, List.set_cons_zero, List.set_cons_succ]
                refine' wpAnyH_take (i := 3) ?_ ?_ ?_ ?_ ?_ ?_ ?_ ?_
                rotate_left 2
                · (simp only [List.getElem?_toArray]; rfl)
                · kernel_rfl
                · decide +kernel
                · decide +kernel
                · exact fun _ _ _ h => h
                · (refine Or.inl ⟨by kernel_rfl, ?_⟩; intro w hSw; (try dsimp only at hSw); go_simp; first | done | with_reducible rfl)
                · assumption
                simp only [Act.put, List.setIfInBounds_toArray, List.set_cons_zero, List.set_cons_succ]
                refine' wpAnyH_take (i := 4) ?_ ?_ ?_ ?_ ?_ ?_ ?_ ?_
                rotate_left 2
                · (simp only [List.getElem?_toArray]; rfl)
                · kernel_rfl
                · decide +kernel
                · decide +kernel
                · exact fun _ _ _ h => h
                · (refine Or.inl ⟨by kernel_rfl, ?_⟩; intro w hSw; (try dsimp only at hSw); go_simp; first | done | with_reducible rfl)
                · assumption
                simp only [Act.put, List.setIfInBounds_toArray, List.set_cons_zero, List.set_cons_succ]
                refine' wpAnyH_take (i := 5) ?_ ?_ ?_ ?_ ?_ ?_ ?_ ?_
                rotate_left 2
                · (simp only [List.getElem?_toArray]; rfl)
                · kernel_rfl
                · decide +kernel
                · decide +kernel
                · exact fun _ _ _ h => h
                · (refine Or.inl ⟨by kernel_rfl, ?_⟩; intro w hSw; (try dsimp only at hSw); go_simp; first | done | with_reducible rfl)
                · assumption
                simp only [Act.put, List.setIfInBounds_toArray, List.set_cons_zero, List.set_cons_succ]
                refine' wpAnyH_take (i := 6) ?_ ?_ ?_ ?_ ?_ ?_ ?_ ?_
                rotate_left 2
                · (simp only [List.getElem?_toArray]; rfl)
                · kernel_rfl
                · decide +kernel
                · decide +kernel
                · exact fun _ _ _ h => h
                · (refine Or.inl ⟨by kernel_rfl, ?_⟩; intro w hSw; (try dsimp only at hSw); go_simp; first | done | with_reducible rfl)
                · assumption
                simp only [Act.put, List.setIfInBounds_toArray, List.set_cons_zero, List.set_cons_succ]
                refine' wpAnyH_take (i := 7) ?_ ?_ ?_ ?_ ?_ ?_ ?_ ?_
                rotate_left 2
                · (simp only [List.getElem?_toArray]; rfl)
                · kernel_rfl
                · decide +kernel
                · decide +kernel
                · exact fun _ _ _ h => h
                · (refine Or.inl ⟨by kernel_rfl, ?_⟩; intro w hSw; (try dsimp only at hSw); go_simp; first | done | with_reducible rfl)
                · assumption
                simp only [Act.put, List.setIfInBounds_toArray, List.set_cons_zero, List.set_cons_succ]
                refine' wpAnyH_take (i := 8) ?_ ?_ ?_ ?_ ?_ ?_ ?_ ?_
                rotate_left 2
                · (simp only [List.getElem?_toArray]; rfl)
                · kernel_rfl
                · decide +kernel
                · decide +kernel
                · exact fun _ _ _ h => h
                · (refine Or.inl ⟨by kernel_rfl, ?_⟩; intro w hSw; (try dsimp only at hSw); go_simp; first | done | with_reducible rfl)
                · assumption
                simp only [Act.put, List.setIfInBounds_toArray, List.set_cons_zero, List.set_cons_succ]
                refine' wpAnyH_take (i := 9) ?_ ?_ ?_ ?_ ?_ ?_ ?_ ?_
                rotate_left 2
                · (simp only [List.getElem?_toArray]; rfl)
                · kernel_rfl
                · decide +kernel
                · decide +kernel
                · exact fun _ _ _ h => h
                · (refine Or.inl ⟨by kernel_rfl, ?_⟩; intro w hSw; (try dsimp only at hSw); go_simp; first | done | with_reducible rfl)
                · assumption
                simp only [Act.put, List.setIfInBounds_toArray, List.set_cons_zero, List.set_cons_succ]
                refine' wpAnyH_take (i := 10) ?_ ?_ ?_ ?_ ?_ ?_ ?_ ?_
                rotate_left 2
                · (simp only [List.getElem?_toArray]; rfl)
                · kernel_rfl
                · decide +kernel
                · decide +kernel
                · exact fun _ _ _ h => h
                · (refine Or.inl ⟨by kernel_rfl, ?_⟩; intro w hSw; (try dsimp only at hSw); go_simp; first | done | with_reducible rfl)
                · assumption
                simp only [Act.put, List.setIfInBounds_toArray, List.set_cons_zero, List.set_cons_succ]
                refine' wpAnyH_take (i := 11) ?_ ?_ ?_ ?_ ?_ ?_ ?_ ?_
                rotate_left 2
                · (simp only [List.getElem?_toArray]; rfl)
                · kernel_rfl
                · decide +kernel
                · decide +kernel
                · exact fun _ _ _ h => h
                · (refine Or.inl ⟨by kernel_rfl, ?_⟩; intro w hSw; (try dsimp only at hSw); go_simp; first | done | with_reducible rfl)
                · assumption
                simp only [Act.put, List.setIfInBounds_toArray, List.set_cons_zero, List.set_cons_succ]
                refine' wpAnyH_take (i := 12) ?_ ?_ ?_ ?_ ?_ ?_ ?_ ?_
                rotate_left 2
                · (simp only [List.getElem?_toArray]; rfl)
                · kernel_rfl
                · decide +kernel
                · decide +kernel
                · exact fun _ _ _ h => h
                · (refine Or.inl ⟨by kernel_rfl, ?_⟩; intro w hSw; (try dsimp only at hSw); go_simp; first | done | with_reducible rfl)
                · assumption
                simp only [Act.put, List.setIfInBounds_toArray, List.set_cons_zero, List.set_cons_succ]
                refine' wpAnyH_take (i := 13) ?_ ?_ ?_ ?_ ?_ ?_ ?_ ?_
                rotate_left 2
                · (simp only [List.getElem?_toArray]; rfl)
                · kernel_rfl
                · decide +kernel
                · decide +kernel
                · exact fun _ _ _ h => h
                · (refine Or.inl ⟨by kernel_rfl, ?_⟩; intro w hSw; (try dsimp only at hSw); go_simp; first | done | with_reducible rfl)
                · assumption
                simp only [Act.put, List.setIfInBounds_toArray, List.set_cons_zero, List.set_cons_succ]
                refine' wpAnyH_take (i := 14) ?_ ?_ ?_ ?_ ?_ ?_ ?_ ?_
                rotate_left 2
                · (simp only [List.getElem?_toArray]; rfl)
                · kernel_rfl
                · decide +kernel
                · decide +kernel
                · exact fun _ _ _ h => h
                · (refine Or.inl ⟨by kernel_rfl, ?_⟩; intro w hSw; (try dsimp only at hSw); go_simp; first | done | with_reducible rfl)
                · assumption
                simp only [Act.put, List.setIfInBounds_toArray, List.set_cons_zero, List.set_cons_succ]
                refine' wpAnyH_take (i := 15) ?_ ?_ ?_ ?_ ?_ ?_ ?_ ?_
                rotate_left 2
                · (simp only [List.getElem?_toArray]; rfl)
                · kernel_rfl
                · decide +kernel
                · decide +kernel
                · exact fun _ _ _ h => h
                · (refine Or.inl ⟨by kernel_rfl, ?_⟩; intro w hSw; (try dsimp only at hSw); go_simp; first | done | with_reducible rfl)
                · assumption
                simp only [Act.put, List.setIfInBounds_toArray, List.set_cons_zero, List.set_cons_succ]
                refine' wpAnyH_take (i := 16) ?_ ?_ ?_ ?_ ?_ ?_ ?_ ?_
                rotate_left 2
                · (simp only [List.getElem?_toArray]; rfl)
                · kernel_rfl
                · decide +kernel
                · decide +kernel
                · exact fun _ _ _ h => h
                · (refine Or.inl ⟨by kernel_rfl, ?_⟩; intro w hSw; (try dsimp only at hSw); go_simp; first | done | with_reducible rfl)
                · assumption
                simp only [Act.put, List.setIfInBounds_toArray, List.set_cons_zero, List.set_cons_succ]
                refine' wpAnyH_take (i := 17) ?_ ?_ ?_ ?_ ?_ ?_ ?_ ?_
                rotate_left 2
                · (simp only [List.getElem?_toArray]; rfl)
                · kernel_rfl
                · decide +kernel
                · decide +kernel
                · exact fun _ _ _ h => h
                · (refine Or.inl ⟨by kernel_rfl, ?_⟩; intro w hSw; (try dsimp only at hSw); go_simp; first | done | with_reducible rfl)
                · assumption
                simp only [Act.put, List.setIfInBounds_toArray, List.set_cons_zero, List.set_cons_succ]
                refine' wpAnyH_take (i := 18) ?_ ?_ ?_ ?_ ?_ ?_ ?_ ?_
                rotate_left 2
                · (simp only [List.getElem?_toArray]; rfl)
                · kernel_rfl
                · decide +kernel
                · decide +kernel
                · exact fun _ _ _ h => h
                · (refine Or.inl ⟨by kernel_rfl, ?_⟩; intro w hSw; (try dsimp only at hSw); go_simp; first | done | with_reducible rfl)
                · assumption
                simp only [Act.put, List.setIfInBounds_toArray, List.set_cons_zero, List.set_cons_succ]
                refine' wpAnyH_take (i := 19) ?_ ?_ ?_ ?_ ?_ ?_ ?_ ?_
                rotate_left 2
                · (simp only [List.getElem?_toArray]; rfl)
                · kernel_rfl
                · decide +kernel
                · decide +kernel
                · exact fun _ _ _ h => h
                · (refine Or.inl ⟨by kernel_rfl, ?_⟩; intro w hSw; (try dsimp only at hSw); go_simp; first | done | with_reducible rfl)
                · assumption
                simp only [Act.put, List.setIfInBounds_toArray, List.set_cons_zero, List.set_cons_succ]
                refine' wpAnyH_take (i := 20) ?_ ?_ ?_ ?_ ?_ ?_ ?_ ?_
                rotate_left 2
                · (simp only [List.getElem?_toArray]; rfl)
                · kernel_rfl
                · decide +kernel
                · decide +kernel
                · exact fun _ _ _ h => h
                · (refine Or.inl ⟨by kernel_rfl, ?_⟩; intro w hSw; (try dsimp only at hSw); go_simp; first | done | with_reducible rfl)
                · assumption
                simp only [Act.put, List.setIfInBounds_toArray, List.set_cons_zero, List.set_cons_succ]
                refine' wpAnyH_take (i := 21) ?_ ?_ ?_ ?_ ?_ ?_ ?_ ?_
                rotate_left 2
                · (simp only [List.getElem?_toArray]; rfl)
                · kernel_rfl
                · decide +kernel
                · decide +kernel
                · exact fun _ _ _ h => h
                · (refine Or.inl ⟨by kernel_rfl, ?_⟩; intro w hSw; (try dsimp only at hSw); go_simp; first | done | with_reducible rfl)
                · assumption
                simp only [Act.put, List.setIfInBounds_toArray, List.set_cons_zero, List.set_cons_succ]
                refine' wpAnyH_take (i := 22) ?_ ?_ ?_ ?_ ?_ ?_ ?_ ?_
                rotate_left 2
                · (simp only [List.getElem?_toArray]; rfl)
                · kernel_rfl
                · decide +kernel
                · decide +kernel
                · exact fun _ _ _ h => h
                · (refine Or.inl ⟨by kernel_rfl, ?_⟩; intro w hSw; (try dsimp only at hSw); go_simp; first | done | with_reducible rfl)
                · assumption
                simp only [Act.put, List.setIfInBounds_toArray, List.set_cons_zero, List.set_cons_succ]
                refine' wpAnyH_take (i := 23) ?_ ?_ ?_ ?_ ?_ ?_ ?_ ?_
                rotate_left 2
                · (simp only [List.getElem?_toArray]; rfl)
                · kernel_rfl
                · decide +kernel
                · decide +kernel
                · exact fun _ _ _ h => h
                · (refine Or.inl ⟨by kernel_rfl, ?_⟩; intro w hSw; (try dsimp only at hSw); go_simp; first | done | with_reducible rfl)
                · assumption
                simp only [Act.put, List.setIfInBounds_toArray, List.set_cons_zero, List.set_cons_succ]
                refine' wpAnyH_take (i := 24) ?_ ?_ ?_ ?_ ?_ ?_ ?_ ?_
                rotate_left 2
                · (simp only [List.getElem?_toArray]; rfl)
                · kernel_rfl
                · decide +kernel
                · decide +kernel
                · exact fun _ _ _ h => h
                · (refine Or.inl ⟨by kernel_rfl, ?_⟩; intro w hSw; (try dsimp only at hSw); go_simp; first | done | with_reducible rfl)
                · assumption
                simp only [Act.put, List.setIfInBounds_toArray, List.set_cons_zero, List.set_cons_succ]
                refine' wpAnyH_take (i := 25) ?_ ?_ ?_ ?_ ?_ ?_ ?_ ?_
                rotate_left 2
                · (simp only [List.getElem?_toArray]; rfl)
                · kernel_rfl
                · decide +kernel
                · decide +kernel
                · exact fun _ _ _ h => h
                · (refine Or.inl ⟨by kernel_rfl, ?_⟩; intro w hSw; (try dsimp only at hSw); go_simp; first | done | with_reducible rfl)
                · assumption
                simp only [Act.put, List.setIfInBounds_toArray, List.set_cons_zero, List.set_cons_succ]
                refine' wpAnyH_take (i := 26) ?_ ?_ ?_ ?_ ?_ ?_ ?_ ?_
                rotate_left 2
                · (simp only [List.getElem?_toArray]; rfl)
                · kernel_rfl
                · decide +kernel
                · decide +kernel
                · exact fun _ _ _ h => h
                · (refine Or.inl ⟨by kernel_rfl, ?_⟩; intro w hSw; (try dsimp only at hSw); go_simp; first | done | with_reducible rfl)
                · assumption
                simp only [Act.put, List.setIfInBounds_toArray, List.set_cons_zero, List.set_cons_succ]
                refine' wpAnyH_take (i := 27) ?_ ?_ ?_ ?_ ?_ ?_ ?_ ?_
                rotate_left 2
                · (simp only [List.getElem?_toArray]; rfl)
                · kernel_rfl
                · decide +kernel
                · decide +kernel
                · exact fun _ _ _ h => h
                · (refine Or.inl ⟨by kernel_rfl, ?_⟩; intro w hSw; (try dsimp only at hSw); go_simp; first | done | with_reducible rfl)
                · assumption
                simp only [Act.put, List.setIfInBounds_toArray, List.set_cons_zero, List.set_cons_succ]
                refine' wpAnyH_take (i := 28) ?_ ?_ ?_ ?_ ?_ ?_ ?_ ?_
                rotate_left 2
                · (simp only [List.getElem?_toArray]; rfl)
                · kernel_rfl
                · decide +kernel
                · decide +kernel
                · exact fun _ _ _ h => h
                · (refine Or.inl ⟨by kernel_rfl, ?_⟩; intro w hSw; (try dsimp only at hSw); go_simp; first | done | with_reducible rfl)
                · assumption
                simp only [Act.put, List.setIfInBounds_toArray, List.set_cons_zero, List.set_cons_succ]
                refine' wpAnyH_take (i := 29) ?_ ?_ ?_ ?_ ?_ ?_ ?_ ?_
                rotate_left 2
                · (simp only [List.getElem?_toArray]; rfl)
                · kernel_rfl
                · decide +kernel
                · decide +kernel
                · exact fun _ _ _ h => h
                · (refine Or.inl ⟨by kernel_rfl, ?_⟩; intro w hSw; (try dsimp only at hSw); go_simp; first | done | with_reducible rfl)
                · assumption
                simp only [Act.put, List.setIfInBounds_toArray, List.set_cons_zero, List.set_cons_succ]
                refine' wpAnyH_take (i := 30) ?_ ?_ ?_ ?_ ?_ ?_ ?_ ?_
                rotate_left 2
                · (simp only [List.getElem?_toArray]; rfl)
                · kernel_rfl
                · decide +kernel
                · decide +kernel
                · exact fun _ _ _ h => h
                · (refine Or.inl ⟨by kernel_rfl, ?_⟩; intro w hSw; (try dsimp only at hSw); go_simp; first | done | with_reducible rfl)
                · assumption
                simp only [Act.put, List.setIfInBounds_toArray, List.set_cons_zero, List.set_cons_succ]
                refine' wpAnyH_take (i := 31) ?_ ?_ ?_ ?_ ?_ ?_ ?_ ?_
                rotate_left 2
                · (simp only [List.getElem?_toArray]; rfl)
                · kernel_rfl
                · decide +kernel
                · decide +kernel
                · exact fun _ _ _ h => h
                · (refine Or.inl ⟨by kernel_rfl, ?_⟩; intro w hSw; (try dsimp only at hSw); go_simp; first | done | with_reducible rfl)
                · assumption
                simp only [Act.put, List.setIfInBounds_toArray, List.set_cons_zero, List.set_cons_succ]
                refine' wpAnyH_take (i := 32) ?_ ?_ ?_ ?_ ?_ ?_ ?_ ?_
                rotate_left 2
                · (simp only [List.getElem?_toArray]; rfl)
                · kernel_rfl
                · decide +kernel
                · decide +kernel
                · exact fun _ _ _ h => h
                · (refine Or.inl ⟨by kernel_rfl, ?_⟩; intro w hSw; (try dsimp only at hSw); go_simp; first | done | with_reducible rfl)
                · assumption
                simp only [Act.put, List.setIfInBounds_toArray, List.set_cons_zero, List.set_cons_succ]
                refine' wpAnyH_take (i := 33) ?_ ?_ ?_ ?_ ?_ ?_ ?_ ?_
                rotate_left 2
                · (simp only [List.getElem?_toArray]; rfl)
                · kernel_rfl
                · decide +kernel
                · decide +kernel
                · exact fun _ _ _ h => h
                · (refine Or.inl ⟨by kernel_rfl, ?_⟩; intro w hSw; (try dsimp only at hSw); go_simp; first | done | with_reducible rfl)
                · assumption
                simp only [Act.put, List.setIfInBounds_toArray, List.set_cons_zero, List.set_cons_succ]
                refine' wpAnyH_take (i := 34) ?_ ?_ ?_ ?_ ?_ ?_ ?_ ?_
                rotate_left 2
                · (simp only [List.getElem?_toArray]; rfl)
                · kernel_rfl
                · decide +kernel
                · decide +kernel
                · exact fun _ _ _ h => h
                · (refine Or.inl ⟨by kernel_rfl, ?_⟩; intro w hSw; (try dsimp only at hSw); go_simp; first | done | with_reducible rfl)
                · assumption
                simp only [Act.put, List.setIfInBounds_toArray, List.set_cons_zero, List.set_cons_succ]
                refine' wpAnyH_take (i := 35) ?_ ?_ ?_ ?_ ?_ ?_ ?_ ?_
                rotate_left 2
                · (simp only [List.getElem?_toArray]; rfl)
                · kernel_rfl
                · decide +kernel
                · decide +kernel
                · exact fun _ _ _ h => h
                · (refine Or.inl ⟨by kernel_rfl, ?_⟩; intro w hSw; (try dsimp only at hSw); go_simp; first | done | with_reducible rfl)
                · assumption
                simp only [Act.put, List.setIfInBounds_toArray, List.set_cons_zero, List.set_cons_succ]
                refine' wpAnyH_take (i := 36) ?_ ?_ ?_ ?_ ?_ ?_ ?_ ?_
                rotate_left 2
                · (simp only [List.getElem?_toArray]; rfl)
                · kernel_rfl
                · decide +kernel
                · decide +kernel
                · exact fun _ _ _ h => h
                · (refine Or.inl ⟨by kernel_rfl, ?_⟩; intro w hSw; (try dsimp only at hSw); go_simp; first | done | with_reducible rfl)
                · assumption
                simp only [Act.put, List.setIfInBounds_toArray, List.set_cons_zero, List.set_cons_succ]
                refine' wpAnyH_take (i := 37) ?_ ?_ ?_ ?_ ?_ ?_ ?_ ?_
                rotate_left 2
                · (simp only [List.getElem?_toArray]; rfl)
                · kernel_rfl
                · decide +kernel
                · decide +kernel
                · exact fun _ _ _ h => h
                · (refine Or.inl ⟨by kernel_rfl, ?_⟩; intro w hSw; (try dsimp only at hSw); go_simp; first | done | with_reducible rfl)
                · assumption
                simp only [Act.put, List.setIfInBounds_toArray, List.set_cons_zero, List.set_cons_succ]
                refine' wpAnyH_take (i := 38) ?_ ?_ ?_ ?_ ?_ ?_ ?_ ?_
                rotate_left 2
                · (simp only [List.getElem?_toArray]; rfl)
                · kernel_rfl
                · decide +kernel
                · decide +kernel
                · exact fun _ _ _ h => h
                · (refine Or.inl ⟨by kernel_rfl, ?_⟩; intro w hSw; (try dsimp only at hSw); go_simp; first | done | with_reducible rfl)
                · assumption
                simp only [Act.put, List.setIfInBounds_toArray, List.set_cons_zero, List.set_cons_succ]
                refine' wpAnyH_take (i := 39) ?_ ?_ ?_ ?_ ?_ ?_ ?_ ?_
                rotate_left 2
                · (simp only [List.getElem?_toArray]; rfl)
                · kernel_rfl
                · decide +kernel
                · decide +kernel
                · exact fun _ _ _ h => h
                · (refine Or.inl ⟨by kernel_rfl, ?_⟩; intro w hSw; (try dsimp only at hSw); go_simp; first | done | with_reducible rfl)
                · assumption
                simp only [Act.put, List.setIfInBounds_toArray, List.set_cons_zero, List.set_cons_succ]
                refine' wpAnyH_take (i := 40) ?_ ?_ ?_ ?_ ?_ ?_ ?_ ?_
                rotate_left 2
                · (simp only [List.getElem?_toArray]; rfl)
                · kernel_rfl
                · decide +kernel
                · decide +kernel
                · exact fun _ _ _ h => h
                · (refine Or.inl ⟨by kernel_rfl, ?_⟩; intro w hSw; (try dsimp only at hSw); go_simp; first | done | with_reducible rfl)
                · assumption
                simp only [Act.put, List.setIfInBounds_toArray, List.set_cons_zero, List.set_cons_succ]
                refine' wpAnyH_take (i := 41) ?_ ?_ ?_ ?_ ?_ ?_ ?_ ?_
                rotate_left 2
                · (simp only [List.getElem?_toArray]; rfl)
                · kernel_rfl
                · decide +kernel
                · decide +kernel
                · exact fun _ _ _ h => h
                · (refine Or.inl ⟨by kernel_rfl, ?_⟩; intro w hSw; (try dsimp only at hSw); go_simp; first | done | with_reducible rfl)
                · assumption
                simp only [Act.put, List.setIfInBounds_toArray, List.set_cons_zero, List.set_cons_succ]
                refine' wpAnyH_take (i := 42) ?_ ?_ ?_ ?_ ?_ ?_ ?_ ?_
                rotate_left 2
                · (simp only [List.getElem?_toArray]; rfl)
                · kernel_rfl
                · decide +kernel
                · decide +kernel
                · exact fun _ _ _ h => h
                · (refine Or.inl ⟨by kernel_rfl, ?_⟩; intro w hSw; (try dsimp only at hSw); go_simp; first | done | with_reducible rfl)
                · assumption
                simp only [Act.put, List.setIfInBounds_toArray, List.set_cons_zero, List.set_cons_succ]
                refine' wpAnyH_take (i := 43) ?_ ?_ ?_ ?_ ?_ ?_ ?_ ?_
                rotate_left 2
                · (simp only [List.getElem?_toArray]; rfl)
                · kernel_rfl
                · decide +kernel
                · decide +kernel
                · exact fun _ _ _ h => h
                · (refine Or.inl ⟨by kernel_rfl, ?_⟩; intro w hSw; (try dsimp only at hSw); go_simp; first | done | with_reducible rfl)
                · assumption
                simp only [Act.put, List.setIfInBounds_toArray, List.set_cons_zero, List.set_cons_succ]
                refine' wpAnyH_take (i := 44) ?_ ?_ ?_ ?_ ?_ ?_ ?_ ?_
                rotate_left 2
                · (simp only [List.getElem?_toArray]; rfl)
                · kernel_rfl
                · decide +kernel
                · decide +kernel
                · exact fun _ _ _ h => h
                · (refine Or.inl ⟨by kernel_rfl, ?_⟩; intro w hSw; (try dsimp only at hSw); go_simp; first | done | with_reducible rfl)
                · assumption
                simp only [Act.put, List.setIfInBounds_toArray, List.set_cons_zero, List.set_cons_succ]
                refine' wpAnyH_take (i := 45) ?_ ?_ ?_ ?_ ?_ ?_ ?_ ?_
                rotate_left 2
                · (simp only [List.getElem?_toArray]; rfl)
                · kernel_rfl
                · decide +kernel
                · decide +kernel
                · exact fun _ _ _ h => h
                · (refine Or.inl ⟨by kernel_rfl, ?_⟩; intro w hSw; (try dsimp only at hSw); go_simp; first | done | with_reducible rfl)
                · assumption
                simp only [Act.put, List.setIfInBounds_toArray, List.set_cons_zero, List.set_cons_succ]
                refine' wpAnyH_take (i := 46) ?_ ?_ ?_ ?_ ?_ ?_ ?_ ?_
                rotate_left 2
                · (simp only [List.getElem?_toArray]; rfl)
                · kernel_rfl
                · decide +kernel
                · decide +kernel
                · exact fun _ _ _ h => h
                · (refine Or.inl ⟨by kernel_rfl, ?_⟩; intro w hSw; (try dsimp only at hSw); go_simp; first | done | with_reducible rfl)
                · assumption
                simp only [Act.put, List.setIfInBounds_toArray, List.set_cons_zero, List.set_cons_succ]
                refine' wpAnyH_take (i := 47) ?_ ?_ ?_ ?_ ?_ ?_ ?_ ?_
                rotate_left 2
                · (simp only [List.getElem?_toArray]; rfl)
                · kernel_rfl
                · decide +kernel
                · decide +kernel
                · exact fun _ _ _ h => h
                · (refine Or.inl ⟨by kernel_rfl, ?_⟩; intro w hSw; (try dsimp only at hSw); go_simp; first | done | with_reducible rfl)
                · assumption
                simp only [Act.put, List.setIfInBounds_toArray, List.set_cons_zero, List.set_cons_succ]
                refine' wpAnyH_take (i := 48) ?_ ?_ ?_ ?_ ?_ ?_ ?_ ?_
                rotate_left 2
                · (simp only [List.getElem?_toArray]; rfl)
                · kernel_rfl
                · decide +kernel
                · decide +kernel
                · exact fun _ _ _ h => h
                · (refine Or.inl ⟨by kernel_rfl, ?_⟩; intro w hSw; (try dsimp only at hSw); go_simp; first | done | with_reducible rfl)
                · assumption
                simp only [Act.put, List.setIfInBounds_toArray, List.set_cons_zero, List.set_cons_succ]
                refine' wpAnyH_take (i := 49) ?_ ?_ ?_ ?_ ?_ ?_ ?_ ?_
                rotate_left 2
                · (simp only [List.getElem?_toArray]; rfl)
                · kernel_rfl
                · decide +kernel
                · decide +kernel
                · exact fun _ _ _ h => h
                · (refine Or.inl ⟨by kernel_rfl, ?_⟩; intro w hSw; (try dsimp only at hSw); go_simp; first | done | with_reducible rfl)
                · assumption
                simp only [Act.put, List.setIfInBounds_toArray, List.set_cons_zero, List.set_cons_succ]
                refine' wpAnyH_take (i := 50) ?_ ?_ ?_ ?_ ?_ ?_ ?_ ?_
                rotate_left 2
                · (simp only [List.getElem?_toArray]; rfl)
                · kernel_rfl
                · decide +kernel
                · decide +kernel
                · exact fun _ _ _ h => h
                · (refine Or.inl ⟨by kernel_rfl, ?_⟩; intro w hSw; (try dsimp only at hSw); go_simp; first | done | with_reducible rfl)
                · assumption
                simp only [Act.put, List.setIfInBounds_toArray, List.set_cons_zero, List.set_cons_succ]
                refine' wpAnyH_take (i := 51) ?_ ?_ ?_ ?_ ?_ ?_ ?_ ?_
                rotate_left 2
                · (simp only [List.getElem?_toArray]; rfl)
                · kernel_rfl
                · decide +kernel
                · decide +kernel
                · exact fun _ _ _ h => h
                · (refine Or.inl ⟨by kernel_rfl, ?_⟩; intro w hSw; (try dsimp only at hSw); go_simp; first | done | with_reducible rfl)
                · assumption
                simp only [Act.put, List.setIfInBounds_toArray, List.set_cons_zero, List.set_cons_succ]
                refine' wpAnyH_take (i := 52) ?_ ?_ ?_ ?_ ?_ ?_ ?_ ?_
                rotate_left 2
                · (simp only [List.getElem?_toArray]; rfl)
                · kernel_rfl
                · decide +kernel
                · decide +kernel
                · exact fun _ _ _ h => h
                · (refine Or.inl ⟨by kernel_rfl, ?_⟩; intro w hSw; (try dsimp only at hSw); go_simp; first | done | with_reducible rfl)
                · assumption
                simp only [Act.put, List.setIfInBounds_toArray, List.set_cons_zero, List.set_cons_succ]
                refine' wpAnyH_take (i := 53) ?_ ?_ ?_ ?_ ?_ ?_ ?_ ?_
                rotate_left 2
                · (simp only [List.getElem?_toArray]; rfl)
                · kernel_rfl
                · decide +kernel
                · decide +kernel
                · exact fun _ _ _ h => h
                · (refine Or.inl ⟨by kernel_rfl, ?_⟩; intro w hSw; (try dsimp only at hSw); go_simp; first | done | with_reducible rfl)
                · assumption
                simp only [Act.put, List.setIfInBounds_toArray, List.set_cons_zero, List.set_cons_succ]
                refine' wpAnyH_take (i := 54) ?_ ?_ ?_ ?_ ?_ ?_ ?_ ?_
                rotate_left 2
                · (simp only [List.getElem?_toArray]; rfl)
                · kernel_rfl
                · decide +kernel
                · decide +kernel
                · exact fun _ _ _ h => h
                · (refine Or.inl ⟨by kernel_rfl, ?_⟩; intro w hSw; (try dsimp only at hSw); go_simp; first | done | with_reducible rfl)
                · assumption
                simp only [Act.put, List.setIfInBounds_toArray, List.set_cons_zero, List.set_cons_succ]
                refine' wpAnyH_take (i := 55) ?_ ?_ ?_ ?_ ?_ ?_ ?_ ?_
                rotate_left 2
                · (simp only [List.getElem?_toArray]; rfl)
                · kernel_rfl
                · decide +kernel
                · decide +kernel
                · exact fun _ _ _ h => h
                · (refine Or.inl ⟨by kernel_rfl, ?_⟩; intro w hSw; (try dsimp only at hSw); go_simp; first | done | with_reducible rfl)
                · assumption
                simp only [Act.put, List.setIfInBounds_toArray, List.set_cons_zero, List.set_cons_succ]
                refine' wpAnyH_take (i := 56) ?_ ?_ ?_ ?_ ?_ ?_ ?_ ?_
                rotate_left 2
                · (simp only [List.getElem?_toArray]; rfl)
                · kernel_rfl
                · decide +kernel
                · decide +kernel
                · exact fun _ _ _ h => h
                · (refine Or.inl ⟨by kernel_rfl, ?_⟩; intro w hSw; (try dsimp only at hSw); go_simp; first | done | with_reducible rfl)
                · assumption
                simp only [Act.put, List.setIfInBounds_toArray, List.set_cons_zero, List.set_cons_succ]
                refine' wpAnyH_take (i := 57) ?_ ?_ ?_ ?_ ?_ ?_ ?_ ?_
                rotate_left 2
                · (simp only [List.getElem?_toArray]; rfl)
                · kernel_rfl
                · decide +kernel
                · decide +kernel
                · exact fun _ _ _ h => h
                · (refine Or.inl ⟨by kernel_rfl, ?_⟩; intro w hSw; (try dsimp only at hSw); go_simp; first | done | with_reducible rfl)
                · assumption
                simp only [Act.put, List.setIfInBounds_toArray, List.set_cons_zero, List.set_cons_succ]
                refine' wpAnyH_take (i := 58) ?_ ?_ ?_ ?_ ?_ ?_ ?_ ?_
                rotate_left 2
                · (simp only [List.getElem?_toArray]; rfl)
                · kernel_rfl
                · decide +kernel
                · decide +kernel
                · exact fun _ _ _ h => h
                · (refine Or.inl ⟨by kernel_rfl, ?_⟩; intro w hSw; (try dsimp only at hSw); go_simp; first | done | with_reducible rfl)
                · assumption
                simp only [Act.put, List.setIfInBounds_toArray, List.set_cons_zero, List.set_cons_succ]
                refine' wpAnyH_take (i := 59) ?_ ?_ ?_ ?_ ?_ ?_ ?_ ?_
                rotate_left 2
                · (simp only [List.getElem?_toArray]; rfl)
                · kernel_rfl
                · decide +kernel
                · decide +kernel
                · exact fun _ _ _ h => h
                · (refine Or.inl ⟨by kernel_rfl, ?_⟩; intro w hSw; (try dsimp only at hSw); go_simp; first | done | with_reducible rfl)
                · assumption
                simp only [Act.put, List.setIfInBounds_toArray, List.set_cons_zero, List.set_cons_succ]
                refine' wpAnyH_take (i := 60) ?_ ?_ ?_ ?_ ?_ ?_ ?_ ?_
                rotate_left 2
                · (simp only [List.getElem?_toArray]; rfl)
                · kernel_rfl
                · decide +kernel
                · decide +kernel
                · exact fun _ _ _ h => h
                · (refine Or.inl ⟨by kernel_rfl, ?_⟩; intro w hSw; (try dsimp only at hSw); go_simp; first | done | with_reducible rfl)
                · assumption
                simp only [Act.put, List.setIfInBounds_toArray, List.set_cons_zero, List.set_cons_succ]
                refine' wpAnyH_take (i := 61) ?_ ?_ ?_ ?_ ?_ ?_ ?_ ?_
                rotate_left 2
                · (simp only [List.getElem?_toArray]; rfl)
                · kernel_rfl
                · decide +kernel
                · decide +kernel
                · exact fun _ _ _ h => h
                · (refine Or.inl ⟨by kernel_rfl, ?_⟩; intro w hSw; (try dsimp only at hSw); go_simp; first | done | with_reducible rfl)
                · assumption
                simp only [Act.put, List.setIfInBounds_toArray, List.set_cons_zero, List.set_cons_succ]
                refine' wpAnyH_take (i := 62) ?_ ?_ ?_ ?_ ?_ ?_ ?_ ?_
                rotate_left 2
                · (simp only [List.getElem?_toArray]; rfl)
                · kernel_rfl
                · decide +kernel
                · decide +kernel
                · exact fun _ _ _ h => h
                · (refine Or.inl ⟨by kernel_rfl, ?_⟩; intro w hSw; (try dsimp only at hSw); go_simp; first | done | with_reducible rfl)
                · assumption
                simp only [Act.put, List.setIfInBounds_toArray, List.set_cons_zero, List.set_cons_succ]
                refine' wpAnyH_take (i := 63) ?_ ?_ ?_ ?_ ?_ ?_ ?_ ?_
                rotate_left 2
                · (simp only [List.getElem?_toArray]; rfl)
                · kernel_rfl
                · decide +kernel
                · decide +kernel
                · exact fun _ _ _ h => h
                · (refine Or.inl ⟨by kernel_rfl, ?_⟩; intro w hSw; (try dsimp only at hSw); go_simp; first | done | with_reducible rfl)
                · assumption
                simp only [Act.put, List.setIfInBounds_toArray, List.set_cons_zero, List.set_cons_succ]
                refine' wpAnyH_take (i := 64) ?_ ?_ ?_ ?_ ?_ ?_ ?_ ?_
                rotate_left 2
                · (simp only [List.getElem?_toArray]; rfl)
                · kernel_rfl
                · decide +kernel
                · decide +kernel
                · exact fun _ _ _ h => h
                · (refine Or.inl ⟨by kernel_rfl, ?_⟩; intro w hSw; (try dsimp only at hSw); go_simp; first | done | with_reducible rfl)
                · assumption
                simp only [Act.put, List.setIfInBounds_toArray, List.set_cons_zero, List.set_cons_succ]
                refine' wpAnyH_take (i := 65) ?_ ?_ ?_ ?_ ?_ ?_ ?_ ?_
                rotate_left 2
                · (simp only [List.getElem?_toArray]; rfl)
                · kernel_rfl
                · decide +kernel
                · decide +kernel
                · exact fun _ _ _ h => h
                · (refine Or.inl ⟨by kernel_rfl, ?_⟩; intro w hSw; (try dsimp only at hSw); go_simp; first | done | with_reducible rfl)
                · assumption
                simp only [Act.put, List.setIfInBounds_toArray, List.set_cons_zero, List.set_cons_succ]
                refine wpAnyH_done (by kernel_rfl) ?_ _
                go_wp2_with fail
                have HW := Lib.hid (R2.drew (R2.step HR.out (by rw [← HZ.out]; rfl) H5.out HBM.out HBL.out HA5.out HL5.out))
                go_roundw
                case rel => exact ⟨i + 1, v5, S2, _, _, by omega, by go_num, HW⟩
                case measure => simp [intOf]; omega
              · have hlt3 : decide (t < lt) = false := by first | (simp; done) | (simp; omega)
                have hbe : (t == lt) = false := by simpa using heq
                clear hbef h0 heq
                go_wp2_with fail
                refine (popL w1 q v t ((j : Int) + 1) j ⟨#[120]⟩ S2 _ _ HR.out.qw).mono ?_
                rintro e w5 ⟨rfl, v5, H5, K5⟩
                have aM5 := HR.out.aM.kept K5.out
                have aL5 := HR.out.aL.kept K5.out
                have bM := HR.out.aM.blk HR.out.blkM K5.out
                have bL := HR.out.aL.blk HR.out.blkL K5.out
                have hcc : ∀ o, (w5.alloc o).cell? (x.add j) = some (.int .u8 t) := fun o => cell_keep ((HF1.out.trans0 H5.out.fr).alloc o) hcj.out
                have m0 : ∀ o, (w5.alloc o).cell? ⟨gm, j, none⟩ = some (.bool false) := fun o => (bM.alloc o).cellAt (bools_get hmj.out)
                have m1 : ∀ o, (w5.alloc o).frozen? ⟨gm, j, none⟩ = false := fun o => (bM.alloc o).froz j
                have l0 : ∀ o, (w5.alloc o).cell? ⟨b8, 0, none⟩ = some (.int .u64 lt) := fun o => (bL.alloc o).cellAt (i := 0) rfl
                have l1 : ∀ o, (w5.alloc o).cell? ⟨b8, 1, none⟩ = some (.int .u64 lo) := fun o => (bL.alloc o).cellAt (i := 1) rfl
                have l2 : ∀ o, (w5.alloc o).cell? ⟨b8, 2, none⟩ = some (.int .i64 ld) := fun o => (bL.alloc o).cellAt (i := 2) rfl
                have l3 : ∀ o, (w5.alloc o).cell? ⟨b8, 3, none⟩ = some (.string ls) := fun o => (bL.alloc o).cellAt (i := 3) rfl
                have g0 : ∀ o, (w5.alloc o).frozen? ⟨b8, 0, none⟩ = false := fun o => (bL.alloc o).froz 0
                have g1 : ∀ o, (w5.alloc o).frozen? ⟨b8, 1, none⟩ = false := fun o => (bL.alloc o).froz 1
                have g2 : ∀ o, (w5.alloc o).frozen? ⟨b8, 2, none⟩ = false := fun o => (bL.alloc o).froz 2
                have g3 : ∀ o, (w5.alloc o).frozen? ⟨b8, 3, none⟩ = false := fun o => (bL.alloc o).froz 3
                have hgm : ¬ gm = w5.heap.size := by have := bM.lt; omega
                have hgm' : ¬ w5.heap.size = gm := fun h => hgm h.symm
                have hb8 : ¬ b8 = w5.heap.size := by have := bL.lt; omega
                have hb8' : ¬ w5.heap.size = b8 := fun h => hb8 h.symm
                have hne : ¬ b8 = gm := HR.out.ne
                have hne' : ¬ gm = b8 := fun h => hne h.symm
                have HBM := Lib.hid bM
                have HBL := Lib.hid bL
                have HA5 := Lib.hid aM5
                have HL5 := Lib.hid aL5
                clear bM bL aM5 aL5
                go_wp2_with fail
                refine wp_region_held_drew (S := (fun w' => w'.cell? ⟨w5.heap.size, 0, none⟩ = some (.int .u64 t) ∧ w'.cell? ⟨w5.heap.size, 1, none⟩ = some (.int .u64 ((j : Int) + 1)) ∧ w'.cell? ⟨w5.heap.size, 2, none⟩ = some (.int .i64 j) ∧ w'.cell? (x.add j) = some (.int .u8 t) ∧ w'.cell? ⟨gm, j, none⟩ = some (.bool false) ∧ w'.cell? ⟨b8, 0, none⟩ = some (.int .u64 lt) ∧ w'.cell? ⟨b8, 1, none⟩ = some (.int .u64 lo))) (by kernel_rfl) ?_ (fun hHeld => ?_)
                · go_keep
                refine' wpAnyH_take (i := 0) ?_ ?_ ?_ ?_ ?_ ?_ ?_ ?_
                rotate_left 2
                · (simp only [List.getElem?_toArray]; rfl)
                · kernel_rfl
                · decide +kernel
                · decide +kernel
                · exact fun _ _ _ h => h
                · (refine Or.inl ⟨by kernel_rfl, ?_⟩; intro w hSw; (try dsimp only at hSw); go_simp; first | done | with_reducible rfl)
                · assumption
                simp only [Act.put, List.setIfInBounds_toArray, List.set_cons_zero, List.set_cons_succ]
                refine' wpAnyH_take (i := 1) ?_ ?_ ?_ ?_ ?_ ?_ ?_ ?_
                rotate_left 2
                · (simp only [List.getElem?_toArray]; rfl)
                · kernel_rfl
                · decide +kernel
                · decide +kernel
                · exact fun _ _ _ h => h
                · (refine Or.inl ⟨by kernel_rfl, ?_⟩; intro w hSw; (try dsimp only at hSw); go_simp; first | done | with_reducible rfl)
                · assumption
                simp only [Act.put, List.setIfInBounds_toArray, List.set_cons_zero, List.set_cons_succ]
                refine' wpAnyH_take (i := 2) ?_ ?_ ?_ ?_ ?_ ?_ ?_ ?_
                rotate_left 2
                · (simp only [List.getElem?_toArray]; rfl)
                · kernel_rfl
                · decide +kernel
                · decide +kernel
                · exact fun _ _ _ h => h
                · (refine Or.inl ⟨by kernel_rfl, ?_⟩; intro w hSw; (try dsimp only at hSw); go_simp; first | done | with_reducible rfl)
                · assumption
                simp only [Act.put, List.setIfInBounds_toArray, List.set_cons_zero, List.set_cons_succ]
                refine' wpAnyH_take (i := 3) ?_ ?_ ?_ ?_ ?_ ?_ ?_ ?_
                rotate_left 2
                · (simp only [List.getElem?_toArray]; rfl)
                · kernel_rfl
                · decide +kernel
                · decide +kernel
                · exact fun _ _ _ h => h
                · (refine Or.inl ⟨by kernel_rfl, ?_⟩; intro w hSw; (try dsimp only at hSw); go_simp; first | done | with_reducible rfl)
                · assumption
                simp only [Act.put, List.setIfInBounds_toArray, List.set_cons_zero, List.set_cons_succ]
                refine' wpAnyH_take (i := 4) ?_ ?_ ?_ ?_ ?_ ?_ ?_ ?_
                rotate_left 2
                · (simp only [List.getElem?_toArray]; rfl)
                · kernel_rfl
                · decide +kernel
                · decide +kernel
                · exact fun _ _ _ h => h
                · (refine Or.inl ⟨by kernel_rfl, ?_⟩; intro w hSw; (try dsimp only at hSw); go_simp; first | done | with_reducible rfl)
                · assumption
                simp only [Act.put, List.setIfInBounds_toArray, List.set_cons_zero, List.set_cons_succ]
                refine' wpAnyH_take (i := 5) ?_ ?_ ?_ ?_ ?_ ?_ ?_ ?_
                rotate_left 2
                · (simp only [List.getElem?_toArray]; rfl)
                · kernel_rfl
                · decide +kernel
                · decide +kernel
                · exact fun _ _ _ h => h
                · (refine Or.inl ⟨by kernel_rfl, ?_⟩; intro w hSw; (try dsimp only at hSw); go_simp; first | done | with_reducible rfl)
                · assumption
                simp only [Act.put, List.setIfInBounds_toArray, List.set_cons_zero, List.set_cons_succ]
                refine' wpAnyH_take (i := 6) ?_ ?_ ?_ ?_ ?_ ?_ ?_ ?_
                rotate_left 2
                · (simp only [List.getElem?_toArray]; rfl)
                · kernel_rfl
                · decide +kernel
                · decide +kernel
                · exact fun _ _ _ h => h
                · (refine Or.inl ⟨by kernel_rfl, ?_⟩; intro w hSw; (try dsimp only at hSw); go_simp; first | done | with_reducible rfl)
                · assumption
                simp only [Act.put, List.setIfInBounds_toArray, List.set_cons_zero, List.set_cons_succ]
                refine' wpAnyH_take (i := 7) ?_ ?_ ?_ ?_ ?_ ?_ ?_ ?_
                rotate_left 2
                · (simp only [List.getElem?_toArray]; rfl)
                · kernel_rfl
                · decide +kernel
                · decide +kernel
                · exact fun _ _ _ h => h
                · (refine Or.inl ⟨by kernel_rfl, ?_⟩; intro w hSw; (try dsimp only at hSw); go_simp; first | done | with_reducible rfl)
                · assumption
                simp only [Act.put, List.setIfInBounds_toArray, List.set_cons_zero, List.set_cons_succ]
                refine' wpAnyH_take (i := 8) ?_ ?_ ?_ ?_ ?_ ?_ ?_ ?_
                rotate_left 2
                · (simp only [List.getElem?_toArray]; rfl)
                · kernel_rfl
                · decide +kernel
                · decide +kernel
                · exact fun _ _ _ h => h
                · (refine Or.inl ⟨by kernel_rfl, ?_⟩; intro w hSw; (try dsimp only at hSw); go_simp; first | done | with_reducible rfl)
                · assumption
                simp only [Act.put, List.setIfInBounds_toArray, List.set_cons_zero, List.set_cons_succ]
                refine' wpAnyH_take (i := 9) ?_ ?_ ?_ ?_ ?_ ?_ ?_ ?_
                rotate_left 2
                · (simp only [List.getElem?_toArray]; rfl)
                · kernel_rfl
                · decide +kernel
                · decide +kernel
                · exact fun _ _ _ h => h
                · (refine Or.inl ⟨by kernel_rfl, ?_⟩; intro w hSw; (try dsimp only at hSw); go_simp; first | done | with_reducible rfl)
                · assumption
                simp only [Act.put, List.setIfInBounds_toArray, List.set_cons_zero, List.set_cons_succ]
                refine' wpAnyH_take (i := 10) ?_ ?_ ?_ ?_ ?_ ?_ ?_ ?_
                rotate_left 2
                · (simp only [List.getElem?_toArray]; rfl)
                · kernel_rfl
                · decide +kernel
                · decide +kernel
                · exact fun _ _ _ h => h
                · (refine Or.inl ⟨by kernel_rfl, ?_⟩; intro w hSw; (try dsimp only at hSw); go_simp; first | done | with_reducible rfl)
                · assumption
                simp only [Act.put, List.setIfInBounds_toArray, List.set_cons_zero, List.set_cons_succ]
                refine' wpAnyH_take (i := 11) ?_ ?_ ?_ ?_ ?_ ?_ ?_ ?_
                rotate_left 2
                · (simp only [List.getElem?_toArray]; rfl)
                · kernel_rfl
                · decide +kernel
                · decide +kernel
                · exact fun _ _ _ h => h
                · (refine Or.inl ⟨by kernel_rfl, ?_⟩; intro w hSw; (try dsimp only at hSw); go_simp; first | done | with_reducible rfl)
                · assumption
                simp only [Act.put, List.setIfInBounds_toArray, List.set_cons_zero, List.set_cons_succ]
                refine' wpAnyH_take (i := 12) ?_ ?_ ?_ ?_ ?_ ?_ ?_ ?_
                rotate_left 2
                · (simp only [List.getElem?_toArray]; rfl)
                · kernel_rfl
                · decide +kernel
                · decide +kernel
                · exact fun _ _ _ h => h
                · (refine Or.inl ⟨by kernel_rfl, ?_⟩; intro w hSw; (try dsimp only at hSw); go_simp; first | done | with_reducible rfl)
                · assumption
                simp only [Act.put, List.setIfInBounds_toArray, List.set_cons_zero, List.set_cons_succ]
                refine' wpAnyH_take (i := 13) ?_ ?_ ?_ ?_ ?_ ?_ ?_ ?_
                rotate_left 2
                · (simp only [List.getElem?_toArray]; rfl)
                · kernel_rfl
                · decide +kernel
                · decide +kernel
                · exact fun _ _ _ h => h
                · (refine Or.inl ⟨by kernel_rfl, ?_⟩; intro w hSw; (try dsimp only at hSw); go_simp; first | done | with_reducible rfl)
                · assumption
                simp only [Act.put, List.setIfInBounds_toArray, List.set_cons_zero, List.set_cons_succ]
                refine' wpAnyH_take (i := 14) ?_ ?_ ?_ ?_ ?_ ?_ ?_ ?_
                rotate_left 2
                · (simp only [List.getElem?_toArray]; rfl)
                · kernel_rfl
                · decide +kernel
                · decide +kernel
                · exact fun _ _ _ h => h
                · (refine Or.inl ⟨by kernel_rfl, ?_⟩; intro w hSw; (try dsimp only at hSw); go_simp; first | done | with_reducible rfl)
                · assumption
                simp only [Act.put, List.setIfInBounds_toArray, List.set_cons_zero, List.set_cons_succ]
                refine' wpAnyH_take (i := 15) ?_ ?_ ?_ ?_ ?_ ?_ ?_ ?_
                rotate_left 2
                · (simp only [List.getElem?_toArray]; rfl)
                · kernel_rfl
                · decide +kernel
                · decide +kernel
                · exact fun _ _ _ h => h
                · (refine Or.inl ⟨by kernel_rfl, ?_⟩; intro w hSw; (try dsimp only at hSw); go_simp; first | done | with_reducible rfl)
                · assumption
                simp only [Act.put, List.setIfInBounds_toArray, List.set_cons_zero, List.set_cons_succ]
                refine' wpAnyH_take (i := 16) ?_ ?_ ?_ ?_ ?_ ?_ ?_ ?_
                rotate_left 2
                · (simp only [List.getElem?_toArray]; rfl)
                · kernel_rfl
                · decide +kernel
                · decide +kernel
                · exact fun _ _ _ h => h
                · (refine Or.inl ⟨by kernel_rfl, ?_⟩; intro w hSw; (try dsimp only at hSw); go_simp; first | done | with_reducible rfl)
                · assumption
                simp only [Act.put, List.setIfInBounds_toArray, List.set_cons_zero, List.set_cons_succ]
                refine' wpAnyH_take (i := 17) ?_ ?_ ?_ ?_ ?_ ?_ ?_ ?_
                rotate_left 2
                · (simp only [List.getElem?_toArray]; rfl)
                · kernel_rfl
                · decide +kernel
                · decide +kernel
                · exact fun _ _ _ h => h
                · (refine Or.inl ⟨by kernel_rfl, ?_⟩; intro w hSw; (try dsimp only at hSw); go_simp; first | done | with_reducible rfl)
                · assumption
                simp only [Act.put, List.setIfInBounds_toArray, List.set_cons_zero, List.set_cons_succ]
                refine' wpAnyH_take (i := 18) ?_ ?_ ?_ ?_ ?_ ?_ ?_ ?_
                rotate_left 2
                · (simp only [List.getElem?_toArray]; rfl)
                · kernel_rfl
                · decide +kernel
                · decide +kernel
                · exact fun _ _ _ h => h
                · (refine Or.inl ⟨by kernel_rfl, ?_⟩; intro w hSw; (try dsimp only at hSw); go_simp; first | done | with_reducible rfl)
                · assumption
                simp only [Act.put, List.setIfInBounds_toArray, List.set_cons_zero, List.set_cons_succ]
                refine' wpAnyH_take (i := 19) ?_ ?_ ?_ ?_ ?_ ?_ ?_ ?_
                rotate_left 2
                · (simp only [List.getElem?_toArray]; rfl)
                · kernel_rfl
                · decide +kernel
                · decide +kernel
                · exact fun _ _ _ h => h
                · (refine Or.inl ⟨by kernel_rfl, ?_⟩; intro w hSw; (try dsimp only at hSw); go_simp; first | done | with_reducible rfl)
                · assumption
                simp only [Act.put, List.setIfInBounds_toArray, List.set_cons_zero, List.set_cons_succ]
                refine' wpAnyH_take (i := 20) ?_ ?_ ?_ ?_ ?_ ?_ ?_ ?_
                rotate_left 2
                · (simp only [List.getElem?_toArray]; rfl)
                · kernel_rfl
                · decide +kernel
                · decide +kernel
                · exact fun _ _ _ h => h
                · (refine Or.inl ⟨by kernel_rfl, ?_⟩; intro w hSw; (try dsimp only at hSw); go_simp; first | done | with_reducible rfl)
                · assumption
                simp only [Act.put, List.setIfInBounds_toArray, List.set_cons_zero, List.set_cons_succ]
                refine' wpAnyH_take (i := 21) ?_ ?_ ?_ ?_ ?_ ?_ ?_ ?_
                rotate_left 2
                · (simp only [List.getElem?_toArray]; rfl)
                · kernel_rfl
                · decide +kernel
                · decide +kernel
                · exact fun _ _ _ h => h
                · (refine Or.inl ⟨by kernel_rfl, ?_⟩; intro w hSw; (try dsimp only at hSw); go_simp; first | done | with_reducible rfl)
                · assumption
                simp only [Act.put, List.setIfInBounds_toArray, List.set_cons_zero, List.set_cons_succ]
                refine' wpAnyH_take (i := 22) ?_ ?_ ?_ ?_ ?_ ?_ ?_ ?_
                rotate_left 2
                · (simp only [List.getElem?_toArray]; rfl)
                · kernel_rfl
                · decide +kernel
                · decide +kernel
                · exact fun _ _ _ h => h
                · (refine Or.inl ⟨by kernel_rfl, ?_⟩; intro w hSw; (try dsimp only at hSw); go_simp; first | done | with_reducible rfl)
                · assumption
                simp only [Act.put, List.setIfInBounds_toArray, List.set_cons_zero, List.set_cons_succ]
                refine' wpAnyH_take (i := 23) ?_ ?_ ?_ ?_ ?_ ?_ ?_ ?_
                rotate_left 2
                · (simp only [List.getElem?_toArray]; rfl)
                · kernel_rfl
                · decide +kernel
                · decide +kernel
                · exact fun _ _ _ h => h
                · (refine Or.inl ⟨by kernel_rfl, ?_⟩; intro w hSw; (try dsimp only at hSw); go_simp; first | done | with_reducible rfl)
                · assumption
                simp only [Act.put, List.setIfInBounds_toArray, List.set_cons_zero, List.set_cons_succ]
                refine' wpAnyH_take (i := 24) ?_ ?_ ?_ ?_ ?_ ?_ ?_ ?_
                rotate_left 2
                · (simp only [List.getElem?_toArray]; rfl)
                · kernel_rfl
                · decide +kernel
                · decide +kernel
                · exact fun _ _ _ h => h
                · (refine Or.inl ⟨by kernel_rfl, ?_⟩; intro w hSw; (try dsimp only at hSw); go_simp; first | done | with_reducible rfl)
                · assumption
                simp only [Act.put, List.setIfInBounds_toArray, List.set_cons_zero, List.set_cons_succ]
                refine' wpAnyH_take (i := 25) ?_ ?_ ?_ ?_ ?_ ?_ ?_ ?_
                rotate_left 2
                · (simp only [List.getElem?_toArray]; rfl)
                · kernel_rfl
                · decide +kernel
                · decide +kernel
                · exact fun _ _ _ h => h
                · (refine Or.inl ⟨by kernel_rfl, ?_⟩; intro w hSw; (try dsimp only at hSw); go_simp; first | done | with_reducible rfl)
                · assumption
                simp only [Act.put, List.setIfInBounds_toArray, List.set_cons_zero, List.set_cons_succ]
                refine' wpAnyH_take (i := 26) ?_ ?_ ?_ ?_ ?_ ?_ ?_ ?_
                rotate_left 2
                · (simp only [List.getElem?_toArray]; rfl)
                · kernel_rfl
                · decide +kernel
                · decide +kernel
                · exact fun _ _ _ h => h
                · (refine Or.inl ⟨by kernel_rfl, ?_⟩; intro w hSw; (try dsimp only at hSw); go_simp; first | done | with_reducible rfl)
                · assumption
                simp only [Act.put, List.setIfInBounds_toArray, List.set_cons_zero, List.set_cons_succ]
                refine' wpAnyH_take (i := 27) ?_ ?_ ?_ ?_ ?_ ?_ ?_ ?_
                rotate_left 2
                · (simp only [List.getElem?_toArray]; rfl)
                · kernel_rfl
                · decide +kernel
                · decide +kernel
                · exact fun _ _ _ h => h
                · (refine Or.inl ⟨by kernel_rfl, ?_⟩; intro w hSw; (try dsimp only at hSw); go_simp; first | done | with_reducible rfl)
                · assumption
                simp only [Act.put, List.setIfInBounds_toArray, List.set_cons_zero, List.set_cons_succ]
                refine' wpAnyH_take (i := 28) ?_ ?_ ?_ ?_ ?_ ?_ ?_ ?_
                rotate_left 2
                · (simp only [List.getElem?_toArray]; rfl)
                · kernel_rfl
                · decide +kernel
                · decide +kernel
                · exact fun _ _ _ h => h
                · (refine Or.inl ⟨by kernel_rfl, ?_⟩; intro w hSw; (try dsimp only at hSw); go_simp; first | done | with_reducible rfl)
                · assumption
                simp only [Act.put, List.setIfInBounds_toArray, List.set_cons_zero, List.set_cons_succ]
                refine' wpAnyH_take (i := 29) ?_ ?_ ?_ ?_ ?_ ?_ ?_ ?_
                rotate_left 2
                · (simp only [List.getElem?_toArray]; rfl)
                · kernel_rfl
                · decide +kernel
                · decide +kernel
                · exact fun _ _ _ h => h
                · (refine Or.inl ⟨by kernel_rfl, ?_⟩; intro w hSw; (try dsimp only at hSw); go_simp; first | done | with_reducible rfl)
                · assumption
                simp only [Act.put, List.setIfInBounds_toArray, List.set_cons_zero, List.set_cons_succ]
                refine' wpAnyH_take (i := 30) ?_ ?_ ?_ ?_ ?_ ?_ ?_ ?_
                rotate_left 2
                · (simp only [List.getElem?_toArray]; rfl)
                · kernel_rfl
                · decide +kernel
                · decide +kernel
                · exact fun _ _ _ h => h
                · (refine Or.inl ⟨by kernel_rfl, ?_⟩; intro w hSw; (try dsimp only at hSw); go_simp; first | done | with_reducible rfl)
                · assumption
                simp only [Act.put, List.setIfInBounds_toArray, List.set_cons_zero, List.set_cons_succ]
                refine' wpAnyH_take (i := 31) ?_ ?_ ?_ ?_ ?_ ?_ ?_ ?_
                rotate_left 2
                · (simp only [List.getElem?_toArray]; rfl)
                · kernel_rfl
                · decide +kernel
                · decide +kernel
                · exact fun _ _ _ h => h
                · (refine Or.inl ⟨by kernel_rfl, ?_⟩; intro w hSw; (try dsimp only at hSw); go_simp; first | done | with_reducible rfl)
                · assumption
                simp only [Act.put, List.setIfInBounds_toArray, List.set_cons_zero, List.set_cons_succ]
                refine' wpAnyH_take (i := 32) ?_ ?_ ?_ ?_ ?_ ?_ ?_ ?_
                rotate_left 2
                · (simp only [List.getElem?_toArray]; rfl)
                · kernel_rfl
                · decide +kernel
                · decide +kernel
                · exact fun _ _ _ h => h
                · (refine Or.inl ⟨by kernel_rfl, ?_⟩; intro w hSw; (try dsimp only at hSw); go_simp; first | done | with_reducible rfl)
                · assumption
                simp only [Act.put, List.setIfInBounds_toArray, List.set_cons_zero, List.set_cons_succ]
                refine' wpAnyH_take (i := 33) ?_ ?_ ?_ ?_ ?_ ?_ ?_ ?_
                rotate_left 2
                · (simp only [List.getElem?_toArray]; rfl)
                · kernel_rfl
                · decide +kernel
                · decide +kernel
                · exact fun _ _ _ h => h
                · (refine Or.inl ⟨by kernel_rfl, ?_⟩; intro w hSw; (try dsimp only at hSw); go_simp; first | done | with_reducible rfl)
                · assumption
                simp only [Act.put, List.setIfInBounds_toArray, List.set_cons_zero, List.set_cons_succ]
                refine' wpAnyH_take (i := 34) ?_ ?_ ?_ ?_ ?_ ?_ ?_ ?_
                rotate_left 2
                · (simp only [List.getElem?_toArray]; rfl)
                · kernel_rfl
                · decide +kernel
                · decide +kernel
                · exact fun _ _ _ h => h
                · (refine Or.inl ⟨by kernel_rfl, ?_⟩; intro w hSw; (try dsimp only at hSw); go_simp; first | done | with_reducible rfl)
                · assumption
                simp only [Act.put, List.setIfInBounds_toArray, List.set_cons_zero, List.set_cons_succ]
                refine' wpAnyH_take (i := 35) ?_ ?_ ?_ ?_ ?_ ?_ ?_ ?_
                rotate_left 2
                · (simp only [List.getElem?_toArray]; rfl)
                · kernel_rfl
                · decide +kernel
                · decide +kernel
                · exact fun _ _ _ h => h
                · (refine Or.inl ⟨by kernel_rfl, ?_⟩; intro w hSw; (try dsimp only at hSw); go_simp; first | done | with_reducible rfl)
                · assumption
                simp only [Act.put, List.setIfInBounds_toArray, List.set_cons_zero, List.set_cons_succ]
                refine' wpAnyH_take (i := 36) ?_ ?_ ?_ ?_ ?_ ?_ ?_ ?_
                rotate_left 2
                · (simp only [List.getElem?_toArray]; rfl)
                · kernel_rfl
                · decide +kernel
                · decide +kernel
                · exact fun _ _ _ h => h
                · (refine Or.inl ⟨by kernel_rfl, ?_⟩; intro w hSw; (try dsimp only at hSw); go_simp; first | done | with_reducible rfl)
                · assumption
                simp only [Act.put, List.setIfInBounds_toArray, List.set_cons_zero, List.set_cons_succ]
                refine' wpAnyH_take (i := 37) ?_ ?_ ?_ ?_ ?_ ?_ ?_ ?_
                rotate_left 2
                · (simp only [List.getElem?_toArray]; rfl)
                · kernel_rfl
                · decide +kernel
                · decide +kernel
                · exact fun _ _ _ h => h
                · (refine Or.inl ⟨by kernel_rfl, ?_⟩; intro w hSw; (try dsimp only at hSw); go_simp; first | done | with_reducible rfl)
                · assumption
                simp only [Act.put, List.setIfInBounds_toArray, List.set_cons_zero, List.set_cons_succ]
                refine' wpAnyH_take (i := 38) ?_ ?_ ?_ ?_ ?_ ?_ ?_ ?_
                rotate_left 2
                · (simp only [List.getElem?_toArray]; rfl)
                · kernel_rfl
                · decide +kernel
                · decide +kernel
                · exact fun _ _ _ h => h
                · (refine Or.inl ⟨by kernel_rfl, ?_⟩; intro w hSw; (try dsimp only at hSw); go_simp; first | done | with_reducible rfl)
                · assumption
                simp only [Act.put, List.setIfInBounds_toArray, List.set_cons_zero, List.set_cons_succ]
                refine' wpAnyH_take (i := 39) ?_ ?_ ?_ ?_ ?_ ?_ ?_ ?_
                rotate_left 2
                · (simp only [List.getElem?_toArray]; rfl)
                · kernel_rfl
                · decide +kernel
                · decide +kernel
                · exact fun _ _ _ h => h
                · (refine Or.inl ⟨by kernel_rfl, ?_⟩; intro w hSw; (try dsimp only at hSw); go_simp; first | done | with_reducible rfl)
                · assumption
                simp only [Act.put, List.setIfInBounds_toArray, List.set_cons_zero, List.set_cons_succ]
                refine' wpAnyH_take (i := 40) ?_ ?_ ?_ ?_ ?_ ?_ ?_ ?_
                rotate_left 2
                · (simp only [List.getElem?_toArray]; rfl)
                · kernel_rfl
                · decide +kernel
                · decide +kernel
                · exact fun _ _ _ h => h
                · (refine Or.inl ⟨by kernel_rfl, ?_⟩; intro w hSw; (try dsimp only at hSw); go_simp; first | done | with_reducible rfl)
                · assumption
                simp only [Act.put, List.setIfInBounds_toArray, List.set_cons_zero, List.set_cons_succ]
                refine' wpAnyH_take (i := 41) ?_ ?_ ?_ ?_ ?_ ?_ ?_ ?_
                rotate_left 2
                · (simp only [List.getElem?_toArray]; rfl)
                · kernel_rfl
                · decide +kernel
                · decide +kernel
                · exact fun _ _ _ h => h
                · (refine Or.inl ⟨by kernel_rfl, ?_⟩; intro w hSw; (try dsimp only at hSw); go_simp; first | done | with_reducible rfl)
                · assumption
                simp only [Act.put, List.setIfInBounds_toArray, List.set_cons_zero, List.set_cons_succ]
                refine' wpAnyH_take (i := 42) ?_ ?_ ?_ ?_ ?_ ?_ ?_ ?_
                rotate_left 2
                · (simp only [List.getElem?_toArray]; rfl)
                · kernel_rfl
                · decide +kernel
                · decide +kernel
                · exact fun _ _ _ h => h
                · (refine Or.inl ⟨by kernel_rfl, ?_⟩; intro w hSw; (try dsimp only at hSw); go_simp; first | done | with_reducible rfl)
                · assumption
                simp only [Act.put, List.setIfInBounds_toArray, List.set_cons_zero, List.set_cons_succ]
                refine' wpAnyH_take (i := 43) ?_ ?_ ?_ ?_ ?_ ?_ ?_ ?_
                rotate_left 2
                · (simp only [List.getElem?_toArray]; rfl)
                · kernel_rfl
                · decide +kernel
                · decide +kernel
                · exact fun _ _ _ h => h
                · (refine Or.inl ⟨by kernel_rfl, ?_⟩; intro w hSw; (try dsimp only at hSw); go_simp; first | done | with_reducible rfl)
                · assumption
                simp only [Act.put, List.setIfInBounds_toArray, List.set_cons_zero, List.set_cons_succ]
                refine' wpAnyH_take (i := 44) ?_ ?_ ?_ ?_ ?_ ?_ ?_ ?_
                rotate_left 2
                · (simp only [List.getElem?_toArray]; rfl)
                · kernel_rfl
                · decide +kernel
                · decide +kernel
                · exact fun _ _ _ h => h
                · (refine Or.inl ⟨by kernel_rfl, ?_⟩; intro w hSw; (try dsimp only at hSw); go_simp; first | done | with_reducible rfl)
                · assumption
                simp only [Act.put, List.setIfInBounds_toArray, List.set_cons_zero, List.set_cons_succ]
                refine' wpAnyH_take (i := 45) ?_ ?_ ?_ ?_ ?_ ?_ ?_ ?_
                rotate_left 2
                · (simp only [List.getElem?_toArray]; rfl)
                · kernel_rfl
                · decide +kernel
                · decide +kernel
                · exact fun _ _ _ h => h
                · (refine Or.inl ⟨by kernel_rfl, ?_⟩; intro w hSw; (try dsimp only at hSw); go_simp; first | done | with_reducible rfl)
                · assumption
                simp only [Act.put, List.setIfInBounds_toArray, List.set_cons_zero, List.set_cons_succ]
                refine' wpAnyH_take (i := 46) ?_ ?_ ?_ ?_ ?_ ?_ ?_ ?_
                rotate_left 2
                · (simp only [List.getElem?_toArray]; rfl)
                · kernel_rfl
                · decide +kernel
                · decide +kernel
                · exact fun _ _ _ h => h
                · (refine Or.inl ⟨by kernel_rfl, ?_⟩; intro w hSw; (try dsimp only at hSw); go_simp; first | done | with_reducible rfl)
                · assumption
                simp only [Act.put, List.setIfInBounds_toArray, List.set_cons_zero, List.set_cons_succ]
                refine' wpAnyH_take (i := 47) ?_ ?_ ?_ ?_ ?_ ?_ ?_ ?_
                rotate_left 2
                · (simp only [List.getElem?_toArray]; rfl)
                · kernel_rfl
                · decide +kernel
                · decide +kernel
                · exact fun _ _ _ h => h
                · (refine Or.inl ⟨by kernel_rfl, ?_⟩; intro w hSw; (try dsimp only at hSw); go_simp; first | done | with_reducible rfl)
                · assumption
                simp only [Act.put, List.setIfInBounds_toArray, List.set_cons_zero, List.set_cons_succ]
                refine' wpAnyH_take (i := 48) ?_ ?_ ?_ ?_ ?_ ?_ ?_ ?_
                rotate_left 2
                · (simp only [List.getElem?_toArray]; rfl)
                · kernel_rfl
                · decide +kernel
                · decide +kernel
                · exact fun _ _ _ h => h
                · (refine Or.inl ⟨by kernel_rfl, ?_⟩; intro w hSw; (try dsimp only at hSw); go_simp; first | done | with_reducible rfl)
                · assumption
                simp only [Act.put, List.setIfInBounds_toArray, List.set_cons_zero, List.set_cons_succ]
                refine' wpAnyH_take (i := 49) ?_ ?_ ?_ ?_ ?_ ?_ ?_ ?_
                rotate_left 2
                · (simp only [List.getElem?_toArray]; rfl)
                · kernel_rfl
                · decide +kernel
                · decide +kernel
                · exact fun _ _ _ h => h
                · (refine Or.inl ⟨by kernel_rfl, ?_⟩; intro w hSw; (try dsimp only at hSw); go_simp; first | done | with_reducible rfl)
                · assumption
                simp only [Act.put, List.setIfInBounds_toArray, List.set_cons_zero, List.set_cons_succ]
                refine' wpAnyH_take (i := 50) ?_ ?_ ?_ ?_ ?_ ?_ ?_ ?_
                rotate_left 2
                · (simp only [List.getElem?_toArray]; rfl)
                · kernel_rfl
                · decide +kernel
                · decide +kernel
                · exact fun _ _ _ h => h
                · (refine Or.inl ⟨by kernel_rfl, ?_⟩; intro w hSw; (try dsimp only at hSw); go_simp; first | done | with_reducible rfl)
                · assumption
                simp only [Act.put, List.setIfInBounds_toArray, List.set_cons_zero, List.set_cons_succ]
                refine' wpAnyH_take (i := 51) ?_ ?_ ?_ ?_ ?_ ?_ ?_ ?_
                rotate_left 2
                · (simp only [List.getElem?_toArray]; rfl)
                · kernel_rfl
                · decide +kernel
                · decide +kernel
                · exact fun _ _ _ h => h
                · (refine Or.inl ⟨by kernel_rfl, ?_⟩; intro w hSw; (try dsimp only at hSw); go_simp; first | done | with_reducible rfl)
                · assumption
                simp only [Act.put, List.setIfInBounds_toArray, List.set_cons_zero, List.set_cons_succ]
                refine' wpAnyH_take (i := 52) ?_ ?_ ?_ ?_ ?_ ?_ ?_ ?_
                rotate_left 2
                · (simp only [List.getElem?_toArray]; rfl)
                · kernel_rfl
                · decide +kernel
                · decide +kernel
                · exact fun _ _ _ h => h
                · (refine Or.inl ⟨by kernel_rfl, ?_⟩; intro w hSw; (try dsimp only at hSw); go_simp; first | done | with_reducible rfl)
                · assumption
                simp only [Act.put, List.setIfInBounds_toArray, List.set_cons_zero, List.set_cons_succ]
                refine' wpAnyH_take (i := 53) ?_ ?_ ?_ ?_ ?_ ?_ ?_ ?_
                rotate_left 2
                · (simp only [List.getElem?_toArray]; rfl)
                · kernel_rfl
                · decide +kernel
                · decide +kernel
                · exact fun _ _ _ h => h
                · (refine Or.inl ⟨by kernel_rfl, ?_⟩; intro w hSw; (try dsimp only at hSw); go_simp; first | done | with_reducible rfl)
                · assumption
                simp only [Act.put, List.setIfInBounds_toArray, List.set_cons_zero, List.set_cons_succ]
                refine' wpAnyH_take (i := 54) ?_ ?_ ?_ ?_ ?_ ?_ ?_ ?_
                rotate_left 2
                · (simp only [List.getElem?_toArray]; rfl)
                · kernel_rfl
                · decide +kernel
                · decide +kernel
                · exact fun _ _ _ h => h
                · (refine Or.inl ⟨by kernel_rfl, ?_⟩; intro w hSw; (try dsimp only at hSw); go_simp; first | done | with_reducible rfl)
                · assumption
                simp only [Act.put, List.setIfInBounds_toArray, List.set_cons_zero, List.set_cons_succ]
                refine' wpAnyH_take (i := 55) ?_ ?_ ?_ ?_ ?_ ?_ ?_ ?_
                rotate_left 2
                · (simp only [List.getElem?_toArray]; rfl)
                · kernel_rfl
                · decide +kernel
                · decide +kernel
                · exact fun _ _ _ h => h
                · (refine Or.inl ⟨by kernel_rfl, ?_⟩; intro w hSw; (try dsimp only at hSw); go_simp; first | done | with_reducible rfl)
                · assumption
                simp only [Act.put, List.setIfInBounds_toArray, List.set_cons_zero, List.set_cons_succ]
                refine' wpAnyH_take (i := 56) ?_ ?_ ?_ ?_ ?_ ?_ ?_ ?_
                rotate_left 2
                · (simp only [List.getElem?_toArray]; rfl)
                · kernel_rfl
                · decide +kernel
                · decide +kernel
                · exact fun _ _ _ h => h
                · (refine Or.inl ⟨by kernel_rfl, ?_⟩; intro w hSw; (try dsimp only at hSw); go_simp; first | done | with_reducible rfl)
                · assumption
                simp only [Act.put, List.setIfInBounds_toArray, List.set_cons_zero, List.set_cons_succ]
                refine' wpAnyH_take (i := 57) ?_ ?_ ?_ ?_ ?_ ?_ ?_ ?_
                rotate_left 2
                · (simp only [List.getElem?_toArray]; rfl)
                · kernel_rfl
                · decide +kernel
                · decide +kernel
                · exact fun _ _ _ h => h
                · exact Or.inr ⟨by kernel_rfl, rfl⟩
                · assumption
                simp only [Act.put, List.setIfInBounds_toArray, List.set_cons_zero, List.set_cons_succ]
                refine' wpAnyH_take (i := 58) ?_ ?_ ?_ ?_ ?_ ?_ ?_ ?_
                rotate_left 2
                · (simp only [List.getElem?_toArray]; rfl)
                · kernel_rfl
                · decide +kernel
                · decide +kernel
                · exact fun _ _ _ h => h
                · exact Or.inr ⟨by kernel_rfl, rfl⟩
                · assumption
                simp only [Act.put, List.setIfInBounds_toArray, List.set_cons_zero, List.set_cons_succ]
                refine' wpAnyH_take (i := 59) ?_ ?_ ?_ ?_ ?_ ?_ ?_ ?_
                rotate_left 2
                · (simp only [List.getElem?_toArray]; rfl)
                · kernel_rfl
                · decide +kernel
                · decide +kernel
                · exact fun _ _ _ h => h
                · exact Or.inr ⟨by kernel_rfl, rfl⟩
                · assumption
                simp only [Act.put, List.setIfInBounds_toArray, List.set_cons_zero, List.set_cons_succ]
                refine' wpAnyH_take (i := 60) ?_ ?_ ?_ ?_ ?_ ?_ ?_ ?_
                rotate_left 2
                · (simp only [List.getElem?_toArray]; rfl)
                · kernel_rfl
                · decide +kernel
                · decide +kernel
                · exact fun _ _ _ h => h
                · exact Or.inr ⟨by kernel_rfl, rfl⟩
                · assumption
                simp only [Act.put, List.setIfInBounds_toArray, List.set_cons_zero, List.set_cons_succ]
                refine' wpAnyH_take (i := 61) ?_ ?_ ?_ ?_ ?_ ?_ ?_ ?_
                rotate_left 2
                · (simp only [List.getElem?_toArray]; rfl)
                · kernel_rfl
                · decide +kernel
                · decide +kernel
                · exact fun _ _ _ h => h
                · exact Or.inr ⟨by kernel_rfl, rfl⟩
                · assumption
                simp only [Act.put, List.setIfInBounds_toArray, List.set_cons_zero, List.set_cons_succ]
                refine' wpAnyH_take (i := 62) ?_ ?_ ?_ ?_ ?_ ?_ ?_ ?_
                rotate_left 2
                · (simp only [List.getElem?_toArray]; rfl)
                · kernel_rfl
                · decide +kernel
                · decide +kernel
                · exact fun _ _ _ h => h
                · (refine Or.inl ⟨by kernel_rfl, ?_⟩; intro w hSw; (try dsimp only at hSw); go_simp; first | done | with_reducible rfl)
                · assumption
                simp only [Act.put, List.setIfInBounds_toArray, List.set_cons_zero, List.set_cons_succ]
                refine' wpAnyH_take (i := 63) ?_ ?_ ?_ ?_ ?_ ?_ ?_ ?_
                rotate_left 2
                · (simp only [List.getElem?_toArray]; rfl)
                · kernel_rfl
                · decide +kernel
                · decide +kernel
                · exact fun _ _ _ h => h
                · (refine Or.inl ⟨by kernel_rfl, ?_⟩; intro w hSw; (try dsimp only at hSw); go_simp; first | done | with_reducible rfl)
                · assumption
                simp only [Act.put, List.setIfInBounds_toArray, List.set_cons_zero, List.set_cons_succ]
                refine' wpAnyH_take (i := 64) ?_ ?_ ?_ ?_ ?_ ?_ ?_ ?_
                rotate_left 2
                · (simp only [List.getElem?_toArray]; rfl)
                · kernel_rfl
                · decide +kernel
                · decide +kernel
                · exact fun _ _ _ h => h
                · (refine Or.inl ⟨by kernel_rfl, ?_⟩; intro w hSw; (try dsimp only at hSw); go_simp; first | done | with_reducible rfl)
                · assumption
                simp only [Act.put, List.setIfInBounds_toArray, List.set_cons_zero, List.set_cons_succ]
                refine' wpAnyH_take (i := 65) ?_ ?_ ?_ ?_ ?_ ?_ ?_ ?_
                rotate_left 2
                · (simp only [List.getElem?_toArray]; rfl)
                · kernel_rfl
                · decide +kernel
                · decide +kernel
                · exact fun _ _ _ h => h
                · (refine Or.inl ⟨by kernel_rfl, ?_⟩; intro w hSw; (try dsimp only at hSw); go_simp; first | done | with_reducible rfl)
                · assumption
                simp only [Act.put, List.setIfInBounds_toArray, List.set_cons_zero, List.set_cons_succ]
                refine wpAnyH_done (by kernel_rfl) ?_ _
                go_wp2_with fail
                have HW := Lib.hid (R2.drew (R2.step HR.out (by rw [← HZ.out]; rfl) H5.out HBM.out HBL.out HA5.out HL5.out))
                go_roundw
                case rel => exact ⟨i + 1, v5, S2, _, _, by omega, by go_num, HW⟩
                case measure => simp [intOf]; omega
        · have hSl := HR.out.pops.len
          have hS0 : S.length = 0 := by omega
          obtain rfl := List.eq_nil_of_length_eq_zero hS0
          clear hSl hS0
          go_wp2_with fail
          refine (wPop0 w1 q v _ _ HR.out.qw).mono ?_
          rintro e w5 ⟨rfl, H5, -⟩
          go_wp2_with fail
          refine (wLen w1 q v [] 0 _ _ (H5.out.fr0 ((Fr.refl _ _).alloc _)) rfl).mono ?_
          rintro e w6 ⟨rfl, rfl⟩
          go_wp2_with fail
          go_ret
          exact ⟨rfl, (HF1.out.trans0 H5.out.fr).alloc _⟩
end Go.Proofs.Ytbafgheblindmaa.queueOrders
