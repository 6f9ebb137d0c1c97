/-
  Texts of this seat, joined: RNe4 RNote LKeepsW LKeepsV LOpen ROpen LAOpen LKOpen.
-/
import Derived.Test.YtnnpjjehecbljaaGreatDoorV28
import Derived.Deep.RegionWith
import Derived.Test.YtnnpjjehecbljaaGreatDoorV26
import Derived.Test.YtnnpjjehecbljaaGreatDoorV27
import Derived.Test.YtnnpjjehecbljaaGreatDoorV29
import Derived.Test.YtnnpjjehecbljaaGreatDoorV13
import Derived.Deep.DeepCutAuto
import Derived.Test.YtnnpjjehecbljaaGreatDoorRows
import Derived.Lay
import Derived.Handed
import Derived.LaidLaws
import Derived.WalkKit
import Derived.OpenShut
import Derived.Deep.Slices
import Derived.Deep.Fields
import Derived.ChangeSame
set_option linter.unusedSimpArgs false
set_option linter.unusedVariables false
namespace Go.Proofs.YtnnpjjehecbljaaGreatDoor
open Go.RowKit

end Go.Proofs.YtnnpjjehecbljaaGreatDoor

namespace Go.Proofs.YtnnpjjehecbljaaGreatDoor
open Go.RowKit

/-- The parts of entries that came in. -/
def Mrow (w : World) (la : Option Addr) (ln : Nat) (l : List Ent) : Prop := l.length = ln ∧ (∀ e, e ∈ l → e.Fits) ∧ (ln = 0 ∨ ∃ lb lo, la = some ⟨lb, lo, none⟩ ∧ Mads w lb lo l)
theorem Mads.fr0 {w w' : World} {b o : Nat} {l : List Ent} (h : Mads w b o l) (f : Fr [] w w') : Mads w' b o l := by
  intro j hj
  obtain ⟨h1, q, h2⟩ := h j hj
  have hb : b < w.heap.size := World.block_lt_of_cell? w _ h2
  have hk2 : ∀ off, w'.cell? ⟨b, off, none⟩ = w.cell? ⟨b, off, none⟩ := fun off => World.cell?_of_block (w := w) (f.block b hb (by simp))
  exact ⟨fun i hi => (hk2 _).trans (h1 i hi), q, (hk2 _).trans h2⟩
theorem Mrow.fr0 {w w' : World} {la : Option Addr} {ln : Nat} {l : List Ent} (h : Mrow w la ln l) (f : Fr [] w w') : Mrow w' la ln l := by
  obtain ⟨h1, h2, h3⟩ := h
  refine ⟨h1, h2, ?_⟩
  rcases h3 with h3 | ⟨lb, lo, e, h3⟩
  · exact .inl h3
  · exact .inr ⟨lb, lo, e, h3.fr0 f⟩

/-- What a message is made of: its parts, and at most ten entries. -/
def noteM (m : Msg) (l : List Ent) : Msg := noteOf m ((l.map madeOf).take 10)

theorem noteOf_none {m : Msg} {L : List Ent} {k : Int} (hk : m.kind % 10 = k) (h : hasI (msgMay (k + 1)).1 101 = false) : (noteOf m L).ents = [] := by
  subst hk
  show (if hasI (msgMay (m.kind % 10 + 1)).1 101 = true then L else []) = []
  rw [h]
  rfl
theorem noteOf_some {m : Msg} {L : List Ent} {k : Int} (hk : m.kind % 10 = k) (h : hasI (msgMay (k + 1)).1 101 = true) : (noteOf m L).ents = L := by
  subst hk
  show (if hasI (msgMay (m.kind % 10 + 1)).1 101 = true then L else []) = L
  rw [h]
  rfl



theorem cutTo_size (n : Nat) (s : ByteArray) (h : s.size ≤ maxLen) : (cutTo n s).size ≤ maxLen := by
  unfold cutTo
  rw [ByteArray.size_extract]
  omega
theorem has_u64 {may : ByteArray} {c a : Int} (h : U64 a) : U64 (has' may c a 0) := by
  unfold has'
  split
  · exact h
  · unfold U64; omega
theorem nodeW_any (a : Int) (h : 0 ≤ a ∧ a < 18446744073709551616) (k : Int) (hk : 0 < k ∧ k < 10000) : U64 (a % k) := by
  unfold U64
  have := Int.emod_nonneg a (b := k) (by omega)
  have := Int.emod_lt_of_pos a (b := k) (by omega)
  omega
theorem nodeW_any1 (a : Int) (k : Int) (hk : 0 < k ∧ k < 10000) : U64 (a % k + 1) := by
  unfold U64
  have := Int.emod_nonneg a (b := k) (by omega)
  have := Int.emod_lt_of_pos a (b := k) (by omega)
  omega

theorem madeOf_fits (e : Ent) (h : e.Fits) : (madeOf e).Fits := by
  obtain ⟨h1, h2, h3, h4, h5, h6, h7, h8⟩ := h
  refine ⟨nodeW_any1 _ 1000 (by omega), nodeW_any1 _ 1000 (by omega), has_u64 (nodeW_any1 _ 5 (by omega)), has_u64 (nodeW_any _ h4 9 (by omega)), has_u64 (nodeW_any _ h5 9 (by omega)), has_u64 (nodeW_any _ h6 9 (by omega)), ?_, ?_⟩
  · show (if hasI _ 100 = true then cutTo 64 e.data else ⟨#[]⟩ : ByteArray).size ≤ maxLen
    split
    · exact cutTo_size 64 _ h7
    · exact Nat.zero_le _
  · show (if hasI _ 111 = true then cutTo 64 e.old else ⟨#[]⟩ : ByteArray).size ≤ maxLen
    split
    · exact cutTo_size 64 _ h8
    · exact Nat.zero_le _

theorem noteM_fits (m : Msg) (l : List Ent) (h : m.Fits) (hl : ∀ e, e ∈ l → e.Fits) : (noteM m l).Fits := by
  obtain ⟨h1, h2, h3, h4, h5, h6, h7, h8⟩ := h
  have hL : ∀ e, e ∈ (l.map madeOf).take 10 → e.Fits := fun e he => by
    obtain ⟨x, hx, rfl⟩ := List.mem_map.1 (List.mem_of_mem_take he)
    exact madeOf_fits x (hl x hx)
  refine ⟨h1, has_u64 h2, has_u64 h3, has_u64 h4, has_u64 h5, ?_, ?_, ?_⟩
  · show ∀ e, e ∈ (if hasI _ 101 = true then (l.map madeOf).take 10 else []) → e.Fits
    split
    · exact hL
    · intro e he; cases he
  · show (if hasI _ 101 = true then (l.map madeOf).take 10 else []).length ≤ maxLen
    split
    · rw [List.length_take]; unfold maxLen; omega
    · exact Nat.zero_le _
  · show (if hasI _ 115 = true then cutTo 200 m.snap else ⟨#[]⟩ : ByteArray).size ≤ maxLen
    split
    · exact cutTo_size 200 _ h8
    · exact Nat.zero_le _

end Go.Proofs.YtnnpjjehecbljaaGreatDoor

namespace Go.Proofs.YtnnpjjehecbljaaGreatDoor
open List renaming getElem?_toArray → lg0, getElem?_cons_succ → lg1, getElem?_cons_zero → lg2, setIfInBounds_toArray → lt0', set_cons_zero → lt1', set_cons_succ → lt2'
open Go.RowKit
set_option linter.unusedSimpArgs false

def madeQ (e : Ent) (q : Bool) : Ent := if q = true then madeOf e else e
theorem madeQ_fits (e : Ent) (q : Bool) (h : e.Fits) : (madeQ e q).Fits := by
  cases q
  · exact h
  · exact madeOf_fits e h
theorem made_q (e : Ent) (q : Bool) (w : World) (he : e.Fits) : Calls Tryz.prog 9 #[.agg #[.int .u64 e.term, .int .u64 e.index, .int .i64 e.kind, .int .u64 e.client, .int .u64 e.seq, .int .u64 e.block, .int .u64 e.many, .int .i64 e.node, .int .i64 e.level, .string e.data, .string e.old, .bool q]] w fun r w' => r = .returned (.agg (madeQ e q).cells) ∧ Fr [] w w' := by
  cases q with
  | true => exact made_own e w he
  | false => exact made_as e w
theorem madAt {w : World} {b o k : Nat} {l : List Ent} (h : Mads w b o l) (hk : k < l.length) {e : Ent} (he : l[k] = e) : ∃ q, ∀ wr, Fr [] w wr → (wr.cell? ⟨b, o + k * 12, none⟩ = some (.int .u64 e.term) ∧ wr.cell? ⟨b, o + k * 12 + 1, none⟩ = some (.int .u64 e.index) ∧ wr.cell? ⟨b, o + k * 12 + 2, none⟩ = some (.int .i64 e.kind) ∧ wr.cell? ⟨b, o + k * 12 + 3, none⟩ = some (.int .u64 e.client) ∧ wr.cell? ⟨b, o + k * 12 + 4, none⟩ = some (.int .u64 e.seq) ∧ wr.cell? ⟨b, o + k * 12 + 5, none⟩ = some (.int .u64 e.block) ∧ wr.cell? ⟨b, o + k * 12 + 6, none⟩ = some (.int .u64 e.many) ∧ wr.cell? ⟨b, o + k * 12 + 7, none⟩ = some (.int .i64 e.node) ∧ wr.cell? ⟨b, o + k * 12 + 8, none⟩ = some (.int .i64 e.level) ∧ wr.cell? ⟨b, o + k * 12 + 9, none⟩ = some (.string e.data) ∧ wr.cell? ⟨b, o + k * 12 + 10, none⟩ = some (.string e.old) ∧ wr.cell? ⟨b, o + k * 12 + 11, none⟩ = some (.bool q)) := by
  obtain ⟨q, hq⟩ := (h k hk).2
  refine ⟨q, fun wr f => ?_⟩
  obtain ⟨q', d0, d1, d2, d3, d4, d5, d6, d7, d8, d9, d10, d11⟩ := madCells h f hk he
  have hb : b < w.heap.size := World.block_lt_of_cell? w _ hq
  have h9 : wr.cell? ⟨b, o + k * 12 + 11, none⟩ = w.cell? ⟨b, o + k * 12 + 11, none⟩ := World.cell?_of_block (w := w) (f.block b hb (by simp))
  rw [h9, hq] at d11
  have hqq : q = q' := by simpa using d11
  subst hqq
  exact ⟨d0, d1, d2, d3, d4, d5, d6, d7, d8, d9, d10, h9.trans hq⟩
/-- What an entry does to a right config. -/
theorem tell_kept (c : Cfg) (e : Ent) (hc : c.ok = true) {D : Cfg} {n : Int} (h : tellC c e = (D, n)) :
    D.ok = true ∧ (n ≠ 0 → D = c) ∧ (c.fin = true → D.fin = true ∧ D.lvl = 2) ∧ ∀ k, k < D.M.length → D.lvl ≤ D.G.getD k 0 := by
  have h1 := apply_keeps c e.ok e.kind e.node e.level hc (fun a b => ok_node e a b) (fun a b => ok_level e a b)
  have h2 := apply_err c e.ok e.kind e.node e.level
  have h' : applyOf c e.ok e.kind e.node e.level = (D, n) := h
  rw [h'] at h1 h2
  refine ⟨h1.1, h2, fun hf => ⟨h1.2 hf, ((Cfg.ok_iff D).1 h1.1).2.2.2.2.2.1 (h1.2 hf)⟩, fun k hk => ?_⟩
  obtain ⟨-, -, a3, -, -, -, a7⟩ := (Cfg.ok_iff D).1 h1.1
  exact (rightL_at (Int.le_refl 0) a3 a7 k hk).2.2.2.1

set_option maxRecDepth 100000 in
set_option maxHeartbeats 16000000 in
theorem lKeepsN (b : Nat) (hb : b < 256) (la : Option Addr) (ln lc : Nat) (l : List Ent) (w : World) (hln : ln ≤ maxLen) (hm : Mrow w la ln l) :
    Calls Tryz.prog 4 #[.int .u8 (b : Nat), .slice la ln lc] w fun e w' => e = .returned (.bool true) ∧ Fr [] w w' := by
  have hS := Sat.refl [] w
  have hsl := someL_len b
  have HM := Lib.hid hm
  clear hm
  have HQ := Lib.hid (fun e q w he => made_q e q w he)
  obtain ⟨C, hC⟩ : ∃ C, newC (someL b) = C := ⟨_, rfl⟩
  have HC := Lib.hid hC
  have HO0 : Hid (C.ok = true ∧ C.fin = false ∧ C.G.length = C.M.length) := by
    show _ ∧ _
    rw [← hC]
    exact ⟨some_ok hb, rfl, ((Cfg.ok_iff _).1 (some_ok hb)).2.2.1⟩
  clear hC
  go_enter Tryz.func4, Tryz.ntmps4
  go_upto_region 7 with (first
    | (go_at_call 6; refine Sat.callF hS (lExamples _) (fun w1 hS => ?_))
    | (go_at_call 8; refine Sat.call0 hS (lSome b hb _) (fun ⟨g0, c0⟩ w2 hS => ?_); dsimp only [List.cons_append, List.nil_append] at hS)
    | (go_at_call 7; refine cNew hS (L := someL b) (hS.mem 0 rfl) (someL_ne b) (by omega) (some_ok hb) HC.out rfl ?_; rintro ⟨g1, c1, h1, d1⟩ w3 hS; dsimp only at hS; simp only [cfC, ivV, HO0.out.2.2]))
  clear hsl HC
  obtain ⟨M, G, lv, fn⟩ := C
  dsimp only at *
  obtain ⟨n, hn⟩ : ∃ n, M.length = n := ⟨_, rfl⟩
  rw [hn]
  have HN : Hid (M.length = n ∧ G.length = n) := ⟨hn, HO0.out.2.2.trans hn⟩
  clear hn
  have hS := hS.new _ rfl #[.slice (some ⟨g1, 0, none⟩) n c1, .slice (some ⟨h1, 0, none⟩) n d1, .int .i64 lv, .bool fn] 30
  generalize w3.heap.size = cx at *
  generalize w3.alloc (.cells #[.slice (some ⟨g1, 0, none⟩) n c1, .slice (some ⟨h1, 0, none⟩) n d1, .int .i64 lv, .bool fn] 30) = w4 at *
  go_wp2_with fail
  go_loopw [8, 9] (fun fv iv wr => ∃ (k : Nat) (M G : List Int) (lv : Int) (fn : Bool) (n : Nat) (x : Nat × Nat × Nat × Nat), k ≤ ln ∧ k ≤ 40 ∧ iv = .int .i64 k ∧ fv = .bool fn ∧ Hid ((Cfg.mk M G lv fn).ok = true) ∧ Hid (M.length = n ∧ G.length = n) ∧ Hid (Sat [] w [(cx, .cel #[.slice (some ⟨x.1, 0, none⟩) n x.2.1, .slice (some ⟨x.2.2.1, 0, none⟩) n x.2.2.2, .int .i64 lv, .bool fn] 30), (x.1, ivCh 3 x.2.1 M), (x.2.2.1, ivCh 3 x.2.2.2 G)] wr)) (fun _ iv _ => 40 - (intOf iv).toNat)
  case atStart => exact ⟨0, M, G, lv, fn, n, (g1, c1, h1, d1), Nat.zero_le _, Nat.zero_le _, rfl, by rw [show fn = false from HO0.out.2.1], HO0.out.1, HN, hS.pick [0, 1, 2] (by decide) rfl⟩
  case round =>
    clear hS HN HO0
    obtain ⟨k, M, G, lv, fn, n, ⟨g1, c1, h1, d1⟩, hk, hk40, rfl, rfl, HOK, HN, hS⟩ := hrel
    have hS := hS.out
    dsimp only at hS
    have fs := hS.says
    simp only [says, Ck.say] at fs
    have EC : Hid ((#[.slice (some ⟨g1, 0, none⟩) n c1, .slice (some ⟨h1, 0, none⟩) n d1, .int .i64 lv, .bool fn] : Array Value) = cfC g1 c1 h1 d1 ⟨M, G, lv, fn⟩) := by
      show _ = _
      unfold cfC ivV
      rw [HN.out.1, HN.out.2]
    by_cases hlt : k < ln
    · by_cases h40 : k < 40
      · have hlk : k < l.length := by rw [HM.out.1]; exact hlt
        obtain ⟨lb, lo, rfl, HMads⟩ : ∃ lb lo, la = some ⟨lb, lo, none⟩ ∧ Hid (Mads w lb lo l) := by
          rcases HM.out.2.2 with h0 | ⟨lb, lo, h1, h2⟩
          · omega
          · exact ⟨lb, lo, h1, h2⟩
        obtain ⟨e, he⟩ : ∃ e, l[k] = e := ⟨_, rfl⟩
        have hef : e.Fits := by rw [← he]; exact HM.out.2.1 _ (List.getElem_mem hlk)
        obtain ⟨q, hq⟩ := madAt HMads.out hlk he
        have HI := Lib.hid hq
        have HE := Lib.hid hef
        clear hq hef he hlk
        obtain ⟨D, er, hD⟩ : ∃ D er, tellC ⟨M, G, lv, fn⟩ (madeQ e q) = (D, er) := ⟨_, _, rfl⟩
        obtain ⟨M', G', lv', fn'⟩ := D
        have HT := Lib.hid (tell_kept _ _ HOK.out hD)
        dsimp only at HT
        have HD := Lib.hid hD
        clear hD
        obtain ⟨n', HN'⟩ : ∃ n', Hid (M'.length = n' ∧ G'.length = n') := ⟨_, rfl, ((Cfg.ok_iff _).1 HT.out.1).2.2.1⟩
        go_upto_region 12 with (go_at_call 13; rw [EC.out]; refine Sat.callF hS (lText g1 c1 h1 d1 ⟨M, G, lv, fn⟩ _ (hS.cf 1 2 rfl rfl (by decide)) HOK.out) (fun wa hS => ?_); clear fs; have fs := hS.says; simp only [says, Ck.say] at fs)
        go_cut [11, 12] (fun p ev wx => ∃ (dx : Nat) (x : Nat × Nat × Nat × Nat), p = .pointer (some ⟨dx, 0, none⟩) ∧ ev = .int .i64 er ∧ Hid (Sat [] w [(dx, .cel #[.slice (some ⟨x.1, 0, none⟩) n' x.2.1, .slice (some ⟨x.2.2.1, 0, none⟩) n' x.2.2.2, .int .i64 lv', .bool fn'] 30), (cx, .cel #[.slice (some ⟨g1, 0, none⟩) n c1, .slice (some ⟨h1, 0, none⟩) n d1, .int .i64 lv, .bool fn] 30), (x.1, ivCh 3 x.2.1 M'), (x.2.2.1, ivCh 3 x.2.2.2 G'), (g1, ivCh 3 c1 M), (h1, ivCh 3 d1 G)] wx))
        case first =>
          refine GoL.begin [(none, fun w => ∀ i, w.cell? ⟨cx, i, none⟩ = #[.slice (some ⟨g1, 0, none⟩) n c1, .slice (some ⟨h1, 0, none⟩) n d1, .int .i64 lv, .bool fn][i]?), (none, fun w => (w.cell? ⟨lb, lo + k * 12, none⟩ = some (.int .u64 e.term) ∧ w.cell? ⟨lb, lo + k * 12 + 1, none⟩ = some (.int .u64 e.index) ∧ w.cell? ⟨lb, lo + k * 12 + 2, none⟩ = some (.int .i64 e.kind) ∧ w.cell? ⟨lb, lo + k * 12 + 3, none⟩ = some (.int .u64 e.client) ∧ w.cell? ⟨lb, lo + k * 12 + 4, none⟩ = some (.int .u64 e.seq) ∧ w.cell? ⟨lb, lo + k * 12 + 5, none⟩ = some (.int .u64 e.block) ∧ w.cell? ⟨lb, lo + k * 12 + 6, none⟩ = some (.int .u64 e.many) ∧ w.cell? ⟨lb, lo + k * 12 + 7, none⟩ = some (.int .i64 e.node) ∧ w.cell? ⟨lb, lo + k * 12 + 8, none⟩ = some (.int .i64 e.level) ∧ w.cell? ⟨lb, lo + k * 12 + 9, none⟩ = some (.string e.data) ∧ w.cell? ⟨lb, lo + k * 12 + 10, none⟩ = some (.string e.old) ∧ w.cell? ⟨lb, lo + k * 12 + 11, none⟩ = some (.bool q)))] (by kernel_rfl) ?_ ?_
          · exact (Facts.cons_at (.inr (by simp [fs])) (Facts.cons_at (.inr (by first | exact HI.out _ hS.fr | exact HI.out _ hS.fr.drew)) Facts.nil_at))
          have hS := hS.drew
          clear fs
          have fs := hS.says
          simp only [says, Ck.say] at fs
          generalize wa.drew = wz at *
          refine' GoL.take 0 [] ?_ ?_ ?_ ?_ ?_
          rotate_left 3
          · (simp only [lg0, lg1, lg2]; rfl)
          · exact fun _ _ _ h => h
          · (refine Or.inl ⟨by first | kernel_rfl | (simp [Region.wanted, yielded]), ?_⟩; intro w hSw; have f0 := Facts.get hSw 0 rfl (by decide); (try dsimp only at f0); clear hSw; go_simp; first | done | with_reducible rfl)
          rotate_left 1
          · kernel_rfl
          simp only [Act.put, lt0', lt1', lt2']
          refine' GoL.take 1 [] ?_ ?_ ?_ ?_ ?_
          rotate_left 3
          · (simp only [lg0, lg1, lg2]; rfl)
          · exact fun _ _ _ h => h
          · (refine Or.inl ⟨by first | kernel_rfl | (simp [Region.wanted, yielded]), ?_⟩; intro w hSw; clear hSw; go_simp; first | done | with_reducible rfl)
          rotate_left 1
          · kernel_rfl
          simp only [Act.put, lt0', lt1', lt2']
          refine' GoL.take 2 [] ?_ ?_ ?_ ?_ ?_
          rotate_left 3
          · (simp only [lg0, lg1, lg2]; rfl)
          · exact fun _ _ _ h => h
          · (refine Or.inl ⟨by first | kernel_rfl | (simp [Region.wanted, yielded]), ?_⟩; intro w hSw; clear hSw; go_simp; first | done | with_reducible rfl)
          rotate_left 1
          · kernel_rfl
          simp only [Act.put, lt0', lt1', lt2']
          refine' GoL.take 3 [] ?_ ?_ ?_ ?_ ?_
          rotate_left 3
          · (simp only [lg0, lg1, lg2]; rfl)
          · exact fun _ _ _ h => h
          · (refine Or.inl ⟨by first | kernel_rfl | (simp [Region.wanted, yielded]), ?_⟩; intro w hSw; clear hSw; go_simp; first | done | with_reducible rfl)
          rotate_left 1
          · kernel_rfl
          simp only [Act.put, lt0', lt1', lt2']
          refine' GoL.take 4 [] ?_ ?_ ?_ ?_ ?_
          rotate_left 3
          · (simp only [lg0, lg1, lg2]; rfl)
          · exact fun _ _ _ h => h
          · (refine Or.inl ⟨by first | kernel_rfl | (simp [Region.wanted, yielded]), ?_⟩; intro w hSw; have f1 := Facts.get hSw 1 rfl (by decide); (try dsimp only at f1); clear hSw; go_simp; first | done | with_reducible rfl)
          rotate_left 1
          · kernel_rfl
          simp only [Act.put, lt0', lt1', lt2']
          refine GoL.ready [5, 10] (by kernel_rfl) (by simp) ?_
          refine GoL.one (by (simp only [lg0, lg1, lg2]; rfl)) (fun K hK => ?_) ?_
          · go_simp
            refine Sat.callF hS (HQ.out e q _ HE.out) (fun wb hS => ?_)
            clear fs
            have fs := hS.says
            simp only [says, Ck.say] at fs
            refine hK.out _ _ ?_ ?_
            · exact (Facts.cons_at (.inr (by simp [fs])) (Facts.cons_at (.inr (by first | exact HI.out _ hS.fr | exact HI.out _ hS.fr.drew)) Facts.nil_at))
            clear hK K
            try simp only [Act.put, lt0', lt1', lt2']
            refine GoL.ready [6, 10] (by kernel_rfl) (by simp) ?_
            refine GoL.one (by (simp only [lg0, lg1, lg2]; rfl)) (fun K hK => ?_) ?_
            · go_simp
              rw [EC.out]
              refine cApply hS (gm := g1) (cm := c1) (gh := h1) (ch := d1) (c := ⟨M, G, lv, fn⟩) (e := madeQ e q) (hS.cf 1 2 rfl rfl (by decide)) HOK.out (madeQ_fits e q HE.out) HD.out ?_
              rintro ⟨g3, c3, h3, d3⟩ wc hS
              dsimp only at hS
              simp only [cfC, ivV, HN'.out.1, HN'.out.2, HN.out.1, HN.out.2]
              clear fs
              have fs := hS.says
              simp only [says, Ck.say] at fs
              refine hK.out _ _ ?_ ?_
              · exact (Facts.cons_at (.inr (by simp [fs])) (Facts.cons_at (.inr (by first | exact HI.out _ hS.fr | exact HI.out _ hS.fr.drew)) Facts.nil_at))
              clear hK K
              try simp only [Act.put, lt0', lt1', lt2']
              refine' GoL.take 7 [] ?_ ?_ ?_ ?_ ?_
              rotate_left 3
              · (simp only [lg0, lg1, lg2]; rfl)
              · exact fun _ _ _ h => h
              · (refine Or.inl ⟨by first | kernel_rfl | (simp [Region.wanted, yielded]), ?_⟩; intro w hSw; clear hSw; go_simp; first | done | with_reducible rfl)
              rotate_left 1
              · kernel_rfl
              simp only [Act.put, lt0', lt1', lt2']
              refine' GoL.take 8 [] ?_ ?_ ?_ ?_ ?_
              rotate_left 3
              · (simp only [lg0, lg1, lg2]; rfl)
              · exact fun _ _ _ h => h
              · (refine Or.inl ⟨by first | kernel_rfl | (simp [Region.wanted, yielded]), ?_⟩; intro w hSw; clear hSw; go_simp; first | done | with_reducible rfl)
              rotate_left 1
              · kernel_rfl
              simp only [Act.put, lt0', lt1', lt2']
              refine' GoL.take 9 [] ?_ ?_ ?_ ?_ ?_
              rotate_left 3
              · (simp only [lg0, lg1, lg2]; rfl)
              · exact fun _ _ _ h => h
              · (refine Or.inl ⟨by first | kernel_rfl | (simp [Region.wanted, yielded]), ?_⟩; intro w hSw; clear hSw; go_simp; first | done | with_reducible rfl)
              rotate_left 1
              · kernel_rfl
              simp only [Act.put, lt0', lt1', lt2']
              refine GoL.ready [10] (by kernel_rfl) (by simp) ?_
              refine GoL.one (by (simp only [lg0, lg1, lg2]; rfl)) (fun K hK => ?_) ?_
              · go_simp
                have hS := hS.new _ rfl #[.slice none 0 0, .slice none 0 0, .int .i64 0, .bool false] 30
                generalize wc.heap.size = dx at *
                generalize wc.alloc (.cells #[.slice none 0 0, .slice none 0 0, .int .i64 0, .bool false] 30) = wd3 at *
                clear fs
                have fs := hS.says
                simp only [says, Ck.say] at fs
                refine hK.out _ _ ?_ ?_
                · exact (Facts.cons_at (.inr (by simp [fs])) (Facts.cons_at (.inr (by first | exact HI.out _ hS.fr | exact HI.out _ hS.fr.drew)) Facts.nil_at))
                clear hK K
                try simp only [Act.put, lt0', lt1', lt2']
                refine GoL.ready [11] (by kernel_rfl) (by simp) ?_
                refine GoL.one (by (simp only [lg0, lg1, lg2]; rfl)) (fun K hK => ?_) ?_
                · go_simp
                  have hS := ((((hS.set 0 rfl 0 (.slice (some ⟨g3, 0, none⟩) n' c3)).set 0 rfl 1 (.slice (some ⟨h3, 0, none⟩) n' d3)).set 0 rfl 2 (.int .i64 lv')).set 0 rfl 3 (.bool fn'))
                  simp only [List.set_cons_zero, List.set_cons_succ, List.setIfInBounds_toArray] at hS
                  generalize ((((wd3.setCell ⟨dx, 0, none⟩ (.slice (some ⟨g3, 0, none⟩) n' c3)).setCell ⟨dx, 1, none⟩ (.slice (some ⟨h3, 0, none⟩) n' d3)).setCell ⟨dx, 2, none⟩ (.int .i64 lv')).setCell ⟨dx, 3, none⟩ (.bool fn')) = we at *
                  clear fs
                  have fs := hS.says
                  simp only [says, Ck.say] at fs
                  refine hK.out _ _ ?_ ?_
                  · exact (Facts.cons_at (.inr (by simp [fs])) (Facts.cons_at (.inr (by first | exact HI.out _ hS.fr | exact HI.out _ hS.fr.drew)) Facts.nil_at))
                  clear hK K
                  try simp only [Act.put, lt0', lt1', lt2']
                  refine' GoL.take 12 [] ?_ ?_ ?_ ?_ ?_
                  rotate_left 3
                  · (simp only [lg0, lg1, lg2]; rfl)
                  · exact fun _ _ _ h => h
                  · (refine Or.inl ⟨by first | kernel_rfl | (simp [Region.wanted, yielded]), ?_⟩; intro w hSw; clear hSw; go_simp; first | done | with_reducible rfl)
                  rotate_left 1
                  · kernel_rfl
                  simp only [Act.put, lt0', lt1', lt2']
                  refine GoL.done (by kernel_rfl) ?_
                  go_wp2_with fail
                  go_meet
                  exact ⟨dx, (g3, c3, h3, d3), rfl, rfl, hS.pick [0, 3, 1, 2, 4, 5] (by decide) rfl⟩
                exact AllL.nil
              exact AllL.nil
            refine GoL.one (by (simp only [lg0, lg1, lg2]; rfl)) (fun K hK => ?_) ?_
            · go_simp
              have hS := hS.new _ rfl #[.slice none 0 0, .slice none 0 0, .int .i64 0, .bool false] 30
              generalize wb.heap.size = dx at *
              generalize wb.alloc (.cells #[.slice none 0 0, .slice none 0 0, .int .i64 0, .bool false] 30) = wd2 at *
              clear fs
              have fs := hS.says
              simp only [says, Ck.say] at fs
              refine hK.out _ _ ?_ ?_
              · exact (Facts.cons_at (.inr (by simp [fs])) (Facts.cons_at (.inr (by first | exact HI.out _ hS.fr | exact HI.out _ hS.fr.drew)) Facts.nil_at))
              clear hK K
              try simp only [Act.put, lt0', lt1', lt2']
              refine GoL.ready [6] (by kernel_rfl) (by simp) ?_
              refine GoL.one (by (simp only [lg0, lg1, lg2]; rfl)) (fun K hK => ?_) ?_
              · go_simp
                rw [EC.out]
                refine cApply hS (gm := g1) (cm := c1) (gh := h1) (ch := d1) (c := ⟨M, G, lv, fn⟩) (e := madeQ e q) (hS.cf 2 3 rfl rfl (by decide)) HOK.out (madeQ_fits e q HE.out) HD.out ?_
                rintro ⟨g3, c3, h3, d3⟩ wc hS
                dsimp only at hS
                simp only [cfC, ivV, HN'.out.1, HN'.out.2, HN.out.1, HN.out.2]
                clear fs
                have fs := hS.says
                simp only [says, Ck.say] at fs
                refine hK.out _ _ ?_ ?_
                · exact (Facts.cons_at (.inr (by simp [fs])) (Facts.cons_at (.inr (by first | exact HI.out _ hS.fr | exact HI.out _ hS.fr.drew)) Facts.nil_at))
                clear hK K
                try simp only [Act.put, lt0', lt1', lt2']
                refine' GoL.take 7 [] ?_ ?_ ?_ ?_ ?_
                rotate_left 3
                · (simp only [lg0, lg1, lg2]; rfl)
                · exact fun _ _ _ h => h
                · (refine Or.inl ⟨by first | kernel_rfl | (simp [Region.wanted, yielded]), ?_⟩; intro w hSw; clear hSw; go_simp; first | done | with_reducible rfl)
                rotate_left 1
                · kernel_rfl
                simp only [Act.put, lt0', lt1', lt2']
                refine' GoL.take 8 [] ?_ ?_ ?_ ?_ ?_
                rotate_left 3
                · (simp only [lg0, lg1, lg2]; rfl)
                · exact fun _ _ _ h => h
                · (refine Or.inl ⟨by first | kernel_rfl | (simp [Region.wanted, yielded]), ?_⟩; intro w hSw; clear hSw; go_simp; first | done | with_reducible rfl)
                rotate_left 1
                · kernel_rfl
                simp only [Act.put, lt0', lt1', lt2']
                refine' GoL.take 9 [] ?_ ?_ ?_ ?_ ?_
                rotate_left 3
                · (simp only [lg0, lg1, lg2]; rfl)
                · exact fun _ _ _ h => h
                · (refine Or.inl ⟨by first | kernel_rfl | (simp [Region.wanted, yielded]), ?_⟩; intro w hSw; clear hSw; go_simp; first | done | with_reducible rfl)
                rotate_left 1
                · kernel_rfl
                simp only [Act.put, lt0', lt1', lt2']
                refine GoL.ready [11] (by kernel_rfl) (by simp) ?_
                refine GoL.one (by (simp only [lg0, lg1, lg2]; rfl)) (fun K hK => ?_) ?_
                · go_simp
                  have hS := ((((hS.set 2 rfl 0 (.slice (some ⟨g3, 0, none⟩) n' c3)).set 2 rfl 1 (.slice (some ⟨h3, 0, none⟩) n' d3)).set 2 rfl 2 (.int .i64 lv')).set 2 rfl 3 (.bool fn'))
                  simp only [List.set_cons_zero, List.set_cons_succ, List.setIfInBounds_toArray] at hS
                  generalize ((((wc.setCell ⟨dx, 0, none⟩ (.slice (some ⟨g3, 0, none⟩) n' c3)).setCell ⟨dx, 1, none⟩ (.slice (some ⟨h3, 0, none⟩) n' d3)).setCell ⟨dx, 2, none⟩ (.int .i64 lv')).setCell ⟨dx, 3, none⟩ (.bool fn')) = we at *
                  clear fs
                  have fs := hS.says
                  simp only [says, Ck.say] at fs
                  refine hK.out _ _ ?_ ?_
                  · exact (Facts.cons_at (.inr (by simp [fs])) (Facts.cons_at (.inr (by first | exact HI.out _ hS.fr | exact HI.out _ hS.fr.drew)) Facts.nil_at))
                  clear hK K
                  try simp only [Act.put, lt0', lt1', lt2']
                  refine' GoL.take 12 [] ?_ ?_ ?_ ?_ ?_
                  rotate_left 3
                  · (simp only [lg0, lg1, lg2]; rfl)
                  · exact fun _ _ _ h => h
                  · (refine Or.inl ⟨by first | kernel_rfl | (simp [Region.wanted, yielded]), ?_⟩; intro w hSw; clear hSw; go_simp; first | done | with_reducible rfl)
                  rotate_left 1
                  · kernel_rfl
                  simp only [Act.put, lt0', lt1', lt2']
                  refine GoL.done (by kernel_rfl) ?_
                  go_wp2_with fail
                  go_meet
                  exact ⟨dx, (g3, c3, h3, d3), rfl, rfl, hS.pick [2, 3, 0, 1, 4, 5] (by decide) rfl⟩
                exact AllL.nil
              exact AllL.nil
            exact AllL.nil
          refine GoL.one (by (simp only [lg0, lg1, lg2]; rfl)) (fun K hK => ?_) ?_
          · go_simp
            have hS := hS.new _ rfl #[.slice none 0 0, .slice none 0 0, .int .i64 0, .bool false] 30
            generalize wz.heap.size = dx at *
            generalize wz.alloc (.cells #[.slice none 0 0, .slice none 0 0, .int .i64 0, .bool false] 30) = wd1 at *
            clear fs
            have fs := hS.says
            simp only [says, Ck.say] at fs
            refine hK.out _ _ ?_ ?_
            · exact (Facts.cons_at (.inr (by simp [fs])) (Facts.cons_at (.inr (by first | exact HI.out _ hS.fr | exact HI.out _ hS.fr.drew)) Facts.nil_at))
            clear hK K
            try simp only [Act.put, lt0', lt1', lt2']
            refine GoL.ready [5] (by kernel_rfl) (by simp) ?_
            refine GoL.one (by (simp only [lg0, lg1, lg2]; rfl)) (fun K hK => ?_) ?_
            · go_simp
              refine Sat.callF hS (HQ.out e q _ HE.out) (fun wb hS => ?_)
              clear fs
              have fs := hS.says
              simp only [says, Ck.say] at fs
              refine hK.out _ _ ?_ ?_
              · exact (Facts.cons_at (.inr (by simp [fs])) (Facts.cons_at (.inr (by first | exact HI.out _ hS.fr | exact HI.out _ hS.fr.drew)) Facts.nil_at))
              clear hK K
              try simp only [Act.put, lt0', lt1', lt2']
              refine GoL.ready [6] (by kernel_rfl) (by simp) ?_
              refine GoL.one (by (simp only [lg0, lg1, lg2]; rfl)) (fun K hK => ?_) ?_
              · go_simp
                rw [EC.out]
                refine cApply hS (gm := g1) (cm := c1) (gh := h1) (ch := d1) (c := ⟨M, G, lv, fn⟩) (e := madeQ e q) (hS.cf 2 3 rfl rfl (by decide)) HOK.out (madeQ_fits e q HE.out) HD.out ?_
                rintro ⟨g3, c3, h3, d3⟩ wc hS
                dsimp only at hS
                simp only [cfC, ivV, HN'.out.1, HN'.out.2, HN.out.1, HN.out.2]
                clear fs
                have fs := hS.says
                simp only [says, Ck.say] at fs
                refine hK.out _ _ ?_ ?_
                · exact (Facts.cons_at (.inr (by simp [fs])) (Facts.cons_at (.inr (by first | exact HI.out _ hS.fr | exact HI.out _ hS.fr.drew)) Facts.nil_at))
                clear hK K
                try simp only [Act.put, lt0', lt1', lt2']
                refine' GoL.take 7 [] ?_ ?_ ?_ ?_ ?_
                rotate_left 3
                · (simp only [lg0, lg1, lg2]; rfl)
                · exact fun _ _ _ h => h
                · (refine Or.inl ⟨by first | kernel_rfl | (simp [Region.wanted, yielded]), ?_⟩; intro w hSw; clear hSw; go_simp; first | done | with_reducible rfl)
                rotate_left 1
                · kernel_rfl
                simp only [Act.put, lt0', lt1', lt2']
                refine' GoL.take 8 [] ?_ ?_ ?_ ?_ ?_
                rotate_left 3
                · (simp only [lg0, lg1, lg2]; rfl)
                · exact fun _ _ _ h => h
                · (refine Or.inl ⟨by first | kernel_rfl | (simp [Region.wanted, yielded]), ?_⟩; intro w hSw; clear hSw; go_simp; first | done | with_reducible rfl)
                rotate_left 1
                · kernel_rfl
                simp only [Act.put, lt0', lt1', lt2']
                refine' GoL.take 9 [] ?_ ?_ ?_ ?_ ?_
                rotate_left 3
                · (simp only [lg0, lg1, lg2]; rfl)
                · exact fun _ _ _ h => h
                · (refine Or.inl ⟨by first | kernel_rfl | (simp [Region.wanted, yielded]), ?_⟩; intro w hSw; clear hSw; go_simp; first | done | with_reducible rfl)
                rotate_left 1
                · kernel_rfl
                simp only [Act.put, lt0', lt1', lt2']
                refine GoL.ready [11] (by kernel_rfl) (by simp) ?_
                refine GoL.one (by (simp only [lg0, lg1, lg2]; rfl)) (fun K hK => ?_) ?_
                · go_simp
                  have hS := ((((hS.set 2 rfl 0 (.slice (some ⟨g3, 0, none⟩) n' c3)).set 2 rfl 1 (.slice (some ⟨h3, 0, none⟩) n' d3)).set 2 rfl 2 (.int .i64 lv')).set 2 rfl 3 (.bool fn'))
                  simp only [List.set_cons_zero, List.set_cons_succ, List.setIfInBounds_toArray] at hS
                  generalize ((((wc.setCell ⟨dx, 0, none⟩ (.slice (some ⟨g3, 0, none⟩) n' c3)).setCell ⟨dx, 1, none⟩ (.slice (some ⟨h3, 0, none⟩) n' d3)).setCell ⟨dx, 2, none⟩ (.int .i64 lv')).setCell ⟨dx, 3, none⟩ (.bool fn')) = we at *
                  clear fs
                  have fs := hS.says
                  simp only [says, Ck.say] at fs
                  refine hK.out _ _ ?_ ?_
                  · exact (Facts.cons_at (.inr (by simp [fs])) (Facts.cons_at (.inr (by first | exact HI.out _ hS.fr | exact HI.out _ hS.fr.drew)) Facts.nil_at))
                  clear hK K
                  try simp only [Act.put, lt0', lt1', lt2']
                  refine' GoL.take 12 [] ?_ ?_ ?_ ?_ ?_
                  rotate_left 3
                  · (simp only [lg0, lg1, lg2]; rfl)
                  · exact fun _ _ _ h => h
                  · (refine Or.inl ⟨by first | kernel_rfl | (simp [Region.wanted, yielded]), ?_⟩; intro w hSw; clear hSw; go_simp; first | done | with_reducible rfl)
                  rotate_left 1
                  · kernel_rfl
                  simp only [Act.put, lt0', lt1', lt2']
                  refine GoL.done (by kernel_rfl) ?_
                  go_wp2_with fail
                  go_meet
                  exact ⟨dx, (g3, c3, h3, d3), rfl, rfl, hS.pick [2, 3, 0, 1, 4, 5] (by decide) rfl⟩
                exact AllL.nil
              exact AllL.nil
            exact AllL.nil
          exact AllL.nil
        case rest =>
          clear hS fs
          obtain ⟨dx, ⟨g3, c3, h3, d3⟩, rfl, rfl, hS⟩ := hcut
          have hS := hS.out
          dsimp only at hS
          have fs := hS.says
          simp only [says, Ck.say] at fs
          by_cases her : er = 0
          · subst her
            cases fn with
            | true =>
              obtain ⟨rfl, rfl⟩ : fn' = true ∧ lv' = 2 := HT.out.2.2.1 rfl
              have ED : Hid ((#[.slice (some ⟨g3, 0, none⟩) n' c3, .slice (some ⟨h3, 0, none⟩) n' d3, .int .i64 2, .bool true] : Array Value) = cfC g3 c3 h3 d3 ⟨M', G', 2, true⟩) := by
                show _ = _
                unfold cfC ivV
                rw [HN'.out.1, HN'.out.2]
              have HDO : Hid ((Cfg.mk M' G' 2 true).ok = true) := HT.out.1
              have hGe := Lib.hid HT.out.2.2.2
              have hn7 : n' ≤ 7 := by have := ((Cfg.ok_iff _).1 HDO.out).2.1; rw [show (Cfg.M ⟨M', G', 2, true⟩) = M' from rfl, HN'.out.1] at this; exact this
              clear HT
              go_upto_region 15 with (first | (go_at_call 13; rw [EC.out]; refine Sat.callF hS (lText g1 c1 h1 d1 ⟨M, G, lv, true⟩ _ (hS.cf 4 5 rfl rfl (by decide)) HOK.out) (fun wf hS => ?_); clear fs; have fs := hS.says; simp only [says, Ck.say] at fs) | (go_at_call 12; rw [ED.out]; refine Sat.callF hS (lRight g3 c3 h3 d3 ⟨M', G', 2, true⟩ _ (hS.cf 2 3 rfl rfl (by decide)) HDO.out) (fun wh hS => ?_); clear fs; have fs := hS.says; simp only [says, Ck.say] at fs))
              go_wp2_with fail
              go_loopw [13] (fun jv wq => ∃ j : Nat, j ≤ n' ∧ jv = .int .i64 j ∧ Hid (Sat [] w [(dx, .cel #[.slice (some ⟨g3, 0, none⟩) n' c3, .slice (some ⟨h3, 0, none⟩) n' d3, .int .i64 2, .bool true] 30), (cx, .cel #[.slice (some ⟨g1, 0, none⟩) n c1, .slice (some ⟨h1, 0, none⟩) n d1, .int .i64 lv, .bool true] 30), (g3, ivCh 3 c3 M'), (h3, ivCh 3 d3 G'), (g1, ivCh 3 c1 M), (h1, ivCh 3 d1 G)] wq)) (fun jv _ => n' - (intOf jv).toNat)
              case atStart => exact ⟨0, Nat.zero_le _, rfl, hS⟩
              case round =>
                clear hS fs
                obtain ⟨j, hj, rfl, hS⟩ := hrel
                have hS := hS.out
                have fs := hS.says
                simp only [says, Ck.say] at fs
                by_cases hjl : j < n'
                · have e1 : wr.cell? ⟨h3, j, none⟩ = some (.int .i64 (G'.getD j 0)) := (Iv.ck.2 (hS.mem 3 rfl)).at_ (by rw [HN'.out.2]; exact hjl)
                  have hge : decide (G'.getD j 0 < 2) = false := by
                    have := hGe.out j (by rw [HN'.out.1]; exact hjl)
                    exact decide_eq_false (by omega)
                  generalize G'.getD j 0 = gj at *
                  go_upto_region 18 with fail
                  refine GoL.begin [(none, fun w => ∀ i, w.cell? ⟨dx, i, none⟩ = #[.slice (some ⟨g3, 0, none⟩) n' c3, .slice (some ⟨h3, 0, none⟩) n' d3, .int .i64 2, .bool true][i]?), (none, fun w => w.cell? ⟨h3, j, none⟩ = some (.int .i64 gj))] (by kernel_rfl) ?_ ?_
                  · exact (Facts.cons_at (.inr (by first | exact e1 | simp [fs])) (Facts.cons_at (.inr (by first | exact e1 | simp [fs])) Facts.nil_at))
                  have hS := hS.drew
                  clear fs
                  have fs := hS.says
                  simp only [says, Ck.say] at fs
                  have e1 : wr.drew.cell? ⟨h3, j, none⟩ = some (.int .i64 gj) := e1
                  generalize wr.drew = wr2 at *
                  refine' GoL.take 0 [] ?_ ?_ ?_ ?_ ?_
                  rotate_left 3
                  · (simp only [lg0, lg1, lg2]; rfl)
                  · exact fun _ _ _ h => h
                  · (refine Or.inl ⟨by first | kernel_rfl | (simp [Region.wanted, yielded]), ?_⟩; intro w hSw; clear hSw; go_simp; first | done | with_reducible rfl)
                  rotate_left 1
                  · kernel_rfl
                  simp only [Act.put, lt0', lt1', lt2']
                  refine' GoL.take 1 [] ?_ ?_ ?_ ?_ ?_
                  rotate_left 3
                  · (simp only [lg0, lg1, lg2]; rfl)
                  · exact fun _ _ _ h => h
                  · (refine Or.inl ⟨by first | kernel_rfl | (simp [Region.wanted, yielded]), ?_⟩; intro w hSw; have f0 := Facts.get hSw 0 rfl (by decide); (try dsimp only at f0); clear hSw; go_simp; first | done | with_reducible rfl)
                  rotate_left 1
                  · kernel_rfl
                  simp only [Act.put, lt0', lt1', lt2']
                  refine' GoL.take 2 [] ?_ ?_ ?_ ?_ ?_
                  rotate_left 3
                  · (simp only [lg0, lg1, lg2]; rfl)
                  · exact fun _ _ _ h => h
                  · (refine Or.inl ⟨by first | kernel_rfl | (simp [Region.wanted, yielded]), ?_⟩; intro w hSw; clear hSw; go_simp; first | done | with_reducible rfl)
                  rotate_left 1
                  · kernel_rfl
                  simp only [Act.put, lt0', lt1', lt2']
                  refine' GoL.take 3 [] ?_ ?_ ?_ ?_ ?_
                  rotate_left 3
                  · (simp only [lg0, lg1, lg2]; rfl)
                  · exact fun _ _ _ h => h
                  · (refine Or.inl ⟨by first | kernel_rfl | (simp [Region.wanted, yielded]), ?_⟩; intro w hSw; clear hSw; go_simp; first | done | with_reducible rfl)
                  rotate_left 1
                  · kernel_rfl
                  simp only [Act.put, lt0', lt1', lt2']
                  refine' GoL.take 4 [] ?_ ?_ ?_ ?_ ?_
                  rotate_left 3
                  · (simp only [lg0, lg1, lg2]; rfl)
                  · exact fun _ _ _ h => h
                  · (refine Or.inl ⟨by first | kernel_rfl | (simp [Region.wanted, yielded]), ?_⟩; intro w hSw; have f1 := Facts.get hSw 1 rfl (by decide); (try dsimp only at f1); clear hSw; go_simp; first | done | with_reducible rfl)
                  rotate_left 1
                  · kernel_rfl
                  simp only [Act.put, lt0', lt1', lt2']
                  refine' GoL.take 5 [] ?_ ?_ ?_ ?_ ?_
                  rotate_left 3
                  · (simp only [lg0, lg1, lg2]; rfl)
                  · exact fun _ _ _ h => h
                  · (refine Or.inl ⟨by first | kernel_rfl | (simp [Region.wanted, yielded]), ?_⟩; intro w hSw; clear hSw; go_simp; first | done | with_reducible rfl)
                  rotate_left 1
                  · kernel_rfl
                  simp only [Act.put, lt0', lt1', lt2']
                  refine' GoL.take 6 [] ?_ ?_ ?_ ?_ ?_
                  rotate_left 3
                  · (simp only [lg0, lg1, lg2]; rfl)
                  · exact fun _ _ _ h => h
                  · (refine Or.inl ⟨by first | kernel_rfl | (simp [Region.wanted, yielded]), ?_⟩; intro w hSw; have f0 := Facts.get hSw 0 rfl (by decide); (try dsimp only at f0); clear hSw; go_simp; first | done | with_reducible rfl)
                  rotate_left 1
                  · kernel_rfl
                  simp only [Act.put, lt0', lt1', lt2']
                  refine' GoL.take 7 [] ?_ ?_ ?_ ?_ ?_
                  rotate_left 3
                  · (simp only [lg0, lg1, lg2]; rfl)
                  · exact fun _ _ _ h => h
                  · (refine Or.inl ⟨by first | kernel_rfl | (simp [Region.wanted, yielded]), ?_⟩; intro w hSw; clear hSw; go_simp; first | done | with_reducible rfl)
                  rotate_left 1
                  · kernel_rfl
                  simp only [Act.put, lt0', lt1', lt2']
                  refine GoL.done (by kernel_rfl) ?_
                  go_wp2_with fail
                  go_roundw
                  case rel => exact ⟨j + 1, by omega, by first | rfl | go_num, hS⟩
                  case measure => simp [intOf]; omega
                · obtain rfl : j = n' := by omega
                  go_upto_region 21 with fail
                  go_wp2_with fail
                  have hS := ((((hS.set 1 rfl 0 (.slice (some ⟨g3, 0, none⟩) j c3)).set 1 rfl 1 (.slice (some ⟨h3, 0, none⟩) j d3)).set 1 rfl 2 (.int .i64 2)).set 1 rfl 3 (.bool true))
                  simp only [List.set_cons_zero, List.set_cons_succ, List.setIfInBounds_toArray] at hS
                  go_roundw
                  case rel =>
                    have h8 := hS.pick [1, 2, 3] (by decide) rfl (K := [(cx, .cel #[.slice (some ⟨g3, 0, none⟩) j c3, .slice (some ⟨h3, 0, none⟩) j d3, .int .i64 2, .bool true] 30), (g3, ivCh 3 c3 M'), (h3, ivCh 3 d3 G')])
                    exact ⟨k + 1, M', G', 2, true, j, (g3, c3, h3, d3), by omega, by omega, by first | rfl | go_num, rfl, HDO, HN', h8⟩
                  case measure => simp [intOf]; omega
            | false =>
              have ED : Hid ((#[.slice (some ⟨g3, 0, none⟩) n' c3, .slice (some ⟨h3, 0, none⟩) n' d3, .int .i64 lv', .bool fn'] : Array Value) = cfC g3 c3 h3 d3 ⟨M', G', lv', fn'⟩) := by
                show _ = _
                unfold cfC ivV
                rw [HN'.out.1, HN'.out.2]
              have HDO : Hid ((Cfg.mk M' G' lv' fn').ok = true) := HT.out.1
              have hGe := Lib.hid HT.out.2.2.2
              have hn7 : n' ≤ 7 := by have := ((Cfg.ok_iff _).1 HDO.out).2.1; rw [show (Cfg.M ⟨M', G', lv', fn'⟩) = M' from rfl, HN'.out.1] at this; exact this
              clear HT
              go_upto_region 15 with (first | (go_at_call 13; rw [EC.out]; refine Sat.callF hS (lText g1 c1 h1 d1 ⟨M, G, lv, false⟩ _ (hS.cf 4 5 rfl rfl (by decide)) HOK.out) (fun wf hS => ?_); clear fs; have fs := hS.says; simp only [says, Ck.say] at fs) | (go_at_call 12; rw [ED.out]; refine Sat.callF hS (lRight g3 c3 h3 d3 ⟨M', G', lv', fn'⟩ _ (hS.cf 2 3 rfl rfl (by decide)) HDO.out) (fun wh hS => ?_); clear fs; have fs := hS.says; simp only [says, Ck.say] at fs))
              go_wp2_with fail
              go_loopw [13] (fun jv wq => ∃ j : Nat, j ≤ n' ∧ jv = .int .i64 j ∧ Hid (Sat [] w [(dx, .cel #[.slice (some ⟨g3, 0, none⟩) n' c3, .slice (some ⟨h3, 0, none⟩) n' d3, .int .i64 lv', .bool fn'] 30), (cx, .cel #[.slice (some ⟨g1, 0, none⟩) n c1, .slice (some ⟨h1, 0, none⟩) n d1, .int .i64 lv, .bool false] 30), (g3, ivCh 3 c3 M'), (h3, ivCh 3 d3 G'), (g1, ivCh 3 c1 M), (h1, ivCh 3 d1 G)] wq)) (fun jv _ => n' - (intOf jv).toNat)
              case atStart => exact ⟨0, Nat.zero_le _, rfl, hS⟩
              case round =>
                clear hS fs
                obtain ⟨j, hj, rfl, hS⟩ := hrel
                have hS := hS.out
                have fs := hS.says
                simp only [says, Ck.say] at fs
                by_cases hjl : j < n'
                · have e1 : wr.cell? ⟨h3, j, none⟩ = some (.int .i64 (G'.getD j 0)) := (Iv.ck.2 (hS.mem 3 rfl)).at_ (by rw [HN'.out.2]; exact hjl)
                  have hge : decide (G'.getD j 0 < lv') = false := by
                    have := hGe.out j (by rw [HN'.out.1]; exact hjl)
                    exact decide_eq_false (by omega)
                  generalize G'.getD j 0 = gj at *
                  go_upto_region 18 with fail
                  refine GoL.begin [(none, fun w => ∀ i, w.cell? ⟨dx, i, none⟩ = #[.slice (some ⟨g3, 0, none⟩) n' c3, .slice (some ⟨h3, 0, none⟩) n' d3, .int .i64 lv', .bool fn'][i]?), (none, fun w => w.cell? ⟨h3, j, none⟩ = some (.int .i64 gj))] (by kernel_rfl) ?_ ?_
                  · exact (Facts.cons_at (.inr (by first | exact e1 | simp [fs])) (Facts.cons_at (.inr (by first | exact e1 | simp [fs])) Facts.nil_at))
                  have hS := hS.drew
                  clear fs
                  have fs := hS.says
                  simp only [says, Ck.say] at fs
                  have e1 : wr.drew.cell? ⟨h3, j, none⟩ = some (.int .i64 gj) := e1
                  generalize wr.drew = wr2 at *
                  refine' GoL.take 0 [] ?_ ?_ ?_ ?_ ?_
                  rotate_left 3
                  · (simp only [lg0, lg1, lg2]; rfl)
                  · exact fun _ _ _ h => h
                  · (refine Or.inl ⟨by first | kernel_rfl | (simp [Region.wanted, yielded]), ?_⟩; intro w hSw; clear hSw; go_simp; first | done | with_reducible rfl)
                  rotate_left 1
                  · kernel_rfl
                  simp only [Act.put, lt0', lt1', lt2']
                  refine' GoL.take 1 [] ?_ ?_ ?_ ?_ ?_
                  rotate_left 3
                  · (simp only [lg0, lg1, lg2]; rfl)
                  · exact fun _ _ _ h => h
                  · (refine Or.inl ⟨by first | kernel_rfl | (simp [Region.wanted, yielded]), ?_⟩; intro w hSw; have f0 := Facts.get hSw 0 rfl (by decide); (try dsimp only at f0); clear hSw; go_simp; first | done | with_reducible rfl)
                  rotate_left 1
                  · kernel_rfl
                  simp only [Act.put, lt0', lt1', lt2']
                  refine' GoL.take 2 [] ?_ ?_ ?_ ?_ ?_
                  rotate_left 3
                  · (simp only [lg0, lg1, lg2]; rfl)
                  · exact fun _ _ _ h => h
                  · (refine Or.inl ⟨by first | kernel_rfl | (simp [Region.wanted, yielded]), ?_⟩; intro w hSw; clear hSw; go_simp; first | done | with_reducible rfl)
                  rotate_left 1
                  · kernel_rfl
                  simp only [Act.put, lt0', lt1', lt2']
                  refine' GoL.take 3 [] ?_ ?_ ?_ ?_ ?_
                  rotate_left 3
                  · (simp only [lg0, lg1, lg2]; rfl)
                  · exact fun _ _ _ h => h
                  · (refine Or.inl ⟨by first | kernel_rfl | (simp [Region.wanted, yielded]), ?_⟩; intro w hSw; clear hSw; go_simp; first | done | with_reducible rfl)
                  rotate_left 1
                  · kernel_rfl
                  simp only [Act.put, lt0', lt1', lt2']
                  refine' GoL.take 4 [] ?_ ?_ ?_ ?_ ?_
                  rotate_left 3
                  · (simp only [lg0, lg1, lg2]; rfl)
                  · exact fun _ _ _ h => h
                  · (refine Or.inl ⟨by first | kernel_rfl | (simp [Region.wanted, yielded]), ?_⟩; intro w hSw; have f1 := Facts.get hSw 1 rfl (by decide); (try dsimp only at f1); clear hSw; go_simp; first | done | with_reducible rfl)
                  rotate_left 1
                  · kernel_rfl
                  simp only [Act.put, lt0', lt1', lt2']
                  refine' GoL.take 5 [] ?_ ?_ ?_ ?_ ?_
                  rotate_left 3
                  · (simp only [lg0, lg1, lg2]; rfl)
                  · exact fun _ _ _ h => h
                  · (refine Or.inl ⟨by first | kernel_rfl | (simp [Region.wanted, yielded]), ?_⟩; intro w hSw; clear hSw; go_simp; first | done | with_reducible rfl)
                  rotate_left 1
                  · kernel_rfl
                  simp only [Act.put, lt0', lt1', lt2']
                  refine' GoL.take 6 [] ?_ ?_ ?_ ?_ ?_
                  rotate_left 3
                  · (simp only [lg0, lg1, lg2]; rfl)
                  · exact fun _ _ _ h => h
                  · (refine Or.inl ⟨by first | kernel_rfl | (simp [Region.wanted, yielded]), ?_⟩; intro w hSw; have f0 := Facts.get hSw 0 rfl (by decide); (try dsimp only at f0); clear hSw; go_simp; first | done | with_reducible rfl)
                  rotate_left 1
                  · kernel_rfl
                  simp only [Act.put, lt0', lt1', lt2']
                  refine' GoL.take 7 [] ?_ ?_ ?_ ?_ ?_
                  rotate_left 3
                  · (simp only [lg0, lg1, lg2]; rfl)
                  · exact fun _ _ _ h => h
                  · (refine Or.inl ⟨by first | kernel_rfl | (simp [Region.wanted, yielded]), ?_⟩; intro w hSw; clear hSw; go_simp; first | done | with_reducible rfl)
                  rotate_left 1
                  · kernel_rfl
                  simp only [Act.put, lt0', lt1', lt2']
                  refine GoL.done (by kernel_rfl) ?_
                  go_wp2_with fail
                  go_roundw
                  case rel => exact ⟨j + 1, by omega, by first | rfl | go_num, hS⟩
                  case measure => simp [intOf]; omega
                · obtain rfl : j = n' := by omega
                  go_upto_region 21 with fail
                  go_wp2_with fail
                  have hS := ((((hS.set 1 rfl 0 (.slice (some ⟨g3, 0, none⟩) j c3)).set 1 rfl 1 (.slice (some ⟨h3, 0, none⟩) j d3)).set 1 rfl 2 (.int .i64 lv')).set 1 rfl 3 (.bool fn'))
                  simp only [List.set_cons_zero, List.set_cons_succ, List.setIfInBounds_toArray] at hS
                  go_roundw
                  case rel =>
                    have h8 := hS.pick [1, 2, 3] (by decide) rfl (K := [(cx, .cel #[.slice (some ⟨g3, 0, none⟩) j c3, .slice (some ⟨h3, 0, none⟩) j d3, .int .i64 lv', .bool fn'] 30), (g3, ivCh 3 c3 M'), (h3, ivCh 3 d3 G')])
                    exact ⟨k + 1, M', G', lv', fn', j, (g3, c3, h3, d3), by omega, by omega, by first | rfl | go_num, rfl, HDO, HN', h8⟩
                  case measure => simp [intOf]; omega
          · have r1 : (er != 0) = true := by simp [her]
            have hDC := HT.out.2.1 her
            obtain ⟨rfl, rfl, rfl, rfl⟩ : M' = M ∧ G' = G ∧ lv' = lv ∧ fn' = fn := by injection hDC with a b c d; exact ⟨a, b, c, d⟩
            obtain rfl : n' = n := HN'.out.1.symm.trans HN.out.1
            clear her hDC HD
            cases fn' with
            | true =>
              obtain rfl : lv' = 2 := (HT.out.2.2.1 rfl).2
              have ED : Hid ((#[.slice (some ⟨g3, 0, none⟩) n' c3, .slice (some ⟨h3, 0, none⟩) n' d3, .int .i64 2, .bool true] : Array Value) = cfC g3 c3 h3 d3 ⟨M', G', 2, true⟩) := by
                show _ = _
                unfold cfC ivV
                rw [HN'.out.1, HN'.out.2]
              have HDO : Hid ((Cfg.mk M' G' 2 true).ok = true) := HT.out.1
              have hGe := Lib.hid HT.out.2.2.2
              have hn7 : n' ≤ 7 := by have := ((Cfg.ok_iff _).1 HDO.out).2.1; rw [show (Cfg.M ⟨M', G', 2, true⟩) = M' from rfl, HN'.out.1] at this; exact this
              clear HT
              go_upto_region 15 with (first | (go_at_call 13; rw [ED.out]; refine Sat.callF hS (lText g3 c3 h3 d3 ⟨M', G', 2, true⟩ _ (hS.cf 2 3 rfl rfl (by decide)) HDO.out) (fun wg hS => ?_); clear fs; have fs := hS.says; simp only [says, Ck.say] at fs) | (go_at_call 13; rw [EC.out]; refine Sat.callF hS (lText g1 c1 h1 d1 ⟨M', G', 2, true⟩ _ (hS.cf 4 5 rfl rfl (by decide)) HOK.out) (fun wf hS => ?_); clear fs; have fs := hS.says; simp only [says, Ck.say] at fs) | (go_at_call 12; rw [ED.out]; refine Sat.callF hS (lRight g3 c3 h3 d3 ⟨M', G', 2, true⟩ _ (hS.cf 2 3 rfl rfl (by decide)) HDO.out) (fun wh hS => ?_); clear fs; have fs := hS.says; simp only [says, Ck.say] at fs))
              go_wp2_with fail
              go_loopw [13] (fun jv wq => ∃ j : Nat, j ≤ n' ∧ jv = .int .i64 j ∧ Hid (Sat [] w [(dx, .cel #[.slice (some ⟨g3, 0, none⟩) n' c3, .slice (some ⟨h3, 0, none⟩) n' d3, .int .i64 2, .bool true] 30), (cx, .cel #[.slice (some ⟨g1, 0, none⟩) n' c1, .slice (some ⟨h1, 0, none⟩) n' d1, .int .i64 2, .bool true] 30), (g3, ivCh 3 c3 M'), (h3, ivCh 3 d3 G'), (g1, ivCh 3 c1 M'), (h1, ivCh 3 d1 G')] wq)) (fun jv _ => n' - (intOf jv).toNat)
              case atStart => exact ⟨0, Nat.zero_le _, rfl, hS⟩
              case round =>
                clear hS fs
                obtain ⟨j, hj, rfl, hS⟩ := hrel
                have hS := hS.out
                have fs := hS.says
                simp only [says, Ck.say] at fs
                by_cases hjl : j < n'
                · have e1 : wr.cell? ⟨h3, j, none⟩ = some (.int .i64 (G'.getD j 0)) := (Iv.ck.2 (hS.mem 3 rfl)).at_ (by rw [HN'.out.2]; exact hjl)
                  have hge : decide (G'.getD j 0 < 2) = false := by
                    have := hGe.out j (by rw [HN'.out.1]; exact hjl)
                    exact decide_eq_false (by omega)
                  generalize G'.getD j 0 = gj at *
                  go_upto_region 18 with fail
                  refine GoL.begin [(none, fun w => ∀ i, w.cell? ⟨dx, i, none⟩ = #[.slice (some ⟨g3, 0, none⟩) n' c3, .slice (some ⟨h3, 0, none⟩) n' d3, .int .i64 2, .bool true][i]?), (none, fun w => w.cell? ⟨h3, j, none⟩ = some (.int .i64 gj))] (by kernel_rfl) ?_ ?_
                  · exact (Facts.cons_at (.inr (by first | exact e1 | simp [fs])) (Facts.cons_at (.inr (by first | exact e1 | simp [fs])) Facts.nil_at))
                  have hS := hS.drew
                  clear fs
                  have fs := hS.says
                  simp only [says, Ck.say] at fs
                  have e1 : wr.drew.cell? ⟨h3, j, none⟩ = some (.int .i64 gj) := e1
                  generalize wr.drew = wr2 at *
                  refine' GoL.take 0 [] ?_ ?_ ?_ ?_ ?_
                  rotate_left 3
                  · (simp only [lg0, lg1, lg2]; rfl)
                  · exact fun _ _ _ h => h
                  · (refine Or.inl ⟨by first | kernel_rfl | (simp [Region.wanted, yielded]), ?_⟩; intro w hSw; clear hSw; go_simp; first | done | with_reducible rfl)
                  rotate_left 1
                  · kernel_rfl
                  simp only [Act.put, lt0', lt1', lt2']
                  refine' GoL.take 1 [] ?_ ?_ ?_ ?_ ?_
                  rotate_left 3
                  · (simp only [lg0, lg1, lg2]; rfl)
                  · exact fun _ _ _ h => h
                  · (refine Or.inl ⟨by first | kernel_rfl | (simp [Region.wanted, yielded]), ?_⟩; intro w hSw; have f0 := Facts.get hSw 0 rfl (by decide); (try dsimp only at f0); clear hSw; go_simp; first | done | with_reducible rfl)
                  rotate_left 1
                  · kernel_rfl
                  simp only [Act.put, lt0', lt1', lt2']
                  refine' GoL.take 2 [] ?_ ?_ ?_ ?_ ?_
                  rotate_left 3
                  · (simp only [lg0, lg1, lg2]; rfl)
                  · exact fun _ _ _ h => h
                  · (refine Or.inl ⟨by first | kernel_rfl | (simp [Region.wanted, yielded]), ?_⟩; intro w hSw; clear hSw; go_simp; first | done | with_reducible rfl)
                  rotate_left 1
                  · kernel_rfl
                  simp only [Act.put, lt0', lt1', lt2']
                  refine' GoL.take 3 [] ?_ ?_ ?_ ?_ ?_
                  rotate_left 3
                  · (simp only [lg0, lg1, lg2]; rfl)
                  · exact fun _ _ _ h => h
                  · (refine Or.inl ⟨by first | kernel_rfl | (simp [Region.wanted, yielded]), ?_⟩; intro w hSw; clear hSw; go_simp; first | done | with_reducible rfl)
                  rotate_left 1
                  · kernel_rfl
                  simp only [Act.put, lt0', lt1', lt2']
                  refine' GoL.take 4 [] ?_ ?_ ?_ ?_ ?_
                  rotate_left 3
                  · (simp only [lg0, lg1, lg2]; rfl)
                  · exact fun _ _ _ h => h
                  · (refine Or.inl ⟨by first | kernel_rfl | (simp [Region.wanted, yielded]), ?_⟩; intro w hSw; have f1 := Facts.get hSw 1 rfl (by decide); (try dsimp only at f1); clear hSw; go_simp; first | done | with_reducible rfl)
                  rotate_left 1
                  · kernel_rfl
                  simp only [Act.put, lt0', lt1', lt2']
                  refine' GoL.take 5 [] ?_ ?_ ?_ ?_ ?_
                  rotate_left 3
                  · (simp only [lg0, lg1, lg2]; rfl)
                  · exact fun _ _ _ h => h
                  · (refine Or.inl ⟨by first | kernel_rfl | (simp [Region.wanted, yielded]), ?_⟩; intro w hSw; clear hSw; go_simp; first | done | with_reducible rfl)
                  rotate_left 1
                  · kernel_rfl
                  simp only [Act.put, lt0', lt1', lt2']
                  refine' GoL.take 6 [] ?_ ?_ ?_ ?_ ?_
                  rotate_left 3
                  · (simp only [lg0, lg1, lg2]; rfl)
                  · exact fun _ _ _ h => h
                  · (refine Or.inl ⟨by first | kernel_rfl | (simp [Region.wanted, yielded]), ?_⟩; intro w hSw; have f0 := Facts.get hSw 0 rfl (by decide); (try dsimp only at f0); clear hSw; go_simp; first | done | with_reducible rfl)
                  rotate_left 1
                  · kernel_rfl
                  simp only [Act.put, lt0', lt1', lt2']
                  refine' GoL.take 7 [] ?_ ?_ ?_ ?_ ?_
                  rotate_left 3
                  · (simp only [lg0, lg1, lg2]; rfl)
                  · exact fun _ _ _ h => h
                  · (refine Or.inl ⟨by first | kernel_rfl | (simp [Region.wanted, yielded]), ?_⟩; intro w hSw; clear hSw; go_simp; first | done | with_reducible rfl)
                  rotate_left 1
                  · kernel_rfl
                  simp only [Act.put, lt0', lt1', lt2']
                  refine GoL.done (by kernel_rfl) ?_
                  go_wp2_with fail
                  go_roundw
                  case rel => exact ⟨j + 1, by omega, by first | rfl | go_num, hS⟩
                  case measure => simp [intOf]; omega
                · obtain rfl : j = n' := by omega
                  go_upto_region 21 with fail
                  go_wp2_with fail
                  have hS := ((((hS.set 1 rfl 0 (.slice (some ⟨g3, 0, none⟩) j c3)).set 1 rfl 1 (.slice (some ⟨h3, 0, none⟩) j d3)).set 1 rfl 2 (.int .i64 2)).set 1 rfl 3 (.bool true))
                  simp only [List.set_cons_zero, List.set_cons_succ, List.setIfInBounds_toArray] at hS
                  go_roundw
                  case rel =>
                    have h8 := hS.pick [1, 2, 3] (by decide) rfl (K := [(cx, .cel #[.slice (some ⟨g3, 0, none⟩) j c3, .slice (some ⟨h3, 0, none⟩) j d3, .int .i64 2, .bool true] 30), (g3, ivCh 3 c3 M'), (h3, ivCh 3 d3 G')])
                    exact ⟨k + 1, M', G', 2, true, j, (g3, c3, h3, d3), by omega, by omega, by first | rfl | go_num, rfl, HDO, HN', h8⟩
                  case measure => simp [intOf]; omega
            | false =>
              have ED : Hid ((#[.slice (some ⟨g3, 0, none⟩) n' c3, .slice (some ⟨h3, 0, none⟩) n' d3, .int .i64 lv', .bool false] : Array Value) = cfC g3 c3 h3 d3 ⟨M', G', lv', false⟩) := by
                show _ = _
                unfold cfC ivV
                rw [HN'.out.1, HN'.out.2]
              have HDO : Hid ((Cfg.mk M' G' lv' false).ok = true) := HT.out.1
              have hGe := Lib.hid HT.out.2.2.2
              have hn7 : n' ≤ 7 := by have := ((Cfg.ok_iff _).1 HDO.out).2.1; rw [show (Cfg.M ⟨M', G', lv', false⟩) = M' from rfl, HN'.out.1] at this; exact this
              clear HT
              go_upto_region 15 with (first | (go_at_call 13; rw [ED.out]; refine Sat.callF hS (lText g3 c3 h3 d3 ⟨M', G', lv', false⟩ _ (hS.cf 2 3 rfl rfl (by decide)) HDO.out) (fun wg hS => ?_); clear fs; have fs := hS.says; simp only [says, Ck.say] at fs) | (go_at_call 13; rw [EC.out]; refine Sat.callF hS (lText g1 c1 h1 d1 ⟨M', G', lv', false⟩ _ (hS.cf 4 5 rfl rfl (by decide)) HOK.out) (fun wf hS => ?_); clear fs; have fs := hS.says; simp only [says, Ck.say] at fs) | (go_at_call 12; rw [ED.out]; refine Sat.callF hS (lRight g3 c3 h3 d3 ⟨M', G', lv', false⟩ _ (hS.cf 2 3 rfl rfl (by decide)) HDO.out) (fun wh hS => ?_); clear fs; have fs := hS.says; simp only [says, Ck.say] at fs))
              go_wp2_with fail
              go_loopw [13] (fun jv wq => ∃ j : Nat, j ≤ n' ∧ jv = .int .i64 j ∧ Hid (Sat [] w [(dx, .cel #[.slice (some ⟨g3, 0, none⟩) n' c3, .slice (some ⟨h3, 0, none⟩) n' d3, .int .i64 lv', .bool false] 30), (cx, .cel #[.slice (some ⟨g1, 0, none⟩) n' c1, .slice (some ⟨h1, 0, none⟩) n' d1, .int .i64 lv', .bool false] 30), (g3, ivCh 3 c3 M'), (h3, ivCh 3 d3 G'), (g1, ivCh 3 c1 M'), (h1, ivCh 3 d1 G')] wq)) (fun jv _ => n' - (intOf jv).toNat)
              case atStart => exact ⟨0, Nat.zero_le _, rfl, hS⟩
              case round =>
                clear hS fs
                obtain ⟨j, hj, rfl, hS⟩ := hrel
                have hS := hS.out
                have fs := hS.says
                simp only [says, Ck.say] at fs
                by_cases hjl : j < n'
                · have e1 : wr.cell? ⟨h3, j, none⟩ = some (.int .i64 (G'.getD j 0)) := (Iv.ck.2 (hS.mem 3 rfl)).at_ (by rw [HN'.out.2]; exact hjl)
                  have hge : decide (G'.getD j 0 < lv') = false := by
                    have := hGe.out j (by rw [HN'.out.1]; exact hjl)
                    exact decide_eq_false (by omega)
                  generalize G'.getD j 0 = gj at *
                  go_upto_region 18 with fail
                  refine GoL.begin [(none, fun w => ∀ i, w.cell? ⟨dx, i, none⟩ = #[.slice (some ⟨g3, 0, none⟩) n' c3, .slice (some ⟨h3, 0, none⟩) n' d3, .int .i64 lv', .bool false][i]?), (none, fun w => w.cell? ⟨h3, j, none⟩ = some (.int .i64 gj))] (by kernel_rfl) ?_ ?_
                  · exact (Facts.cons_at (.inr (by first | exact e1 | simp [fs])) (Facts.cons_at (.inr (by first | exact e1 | simp [fs])) Facts.nil_at))
                  have hS := hS.drew
                  clear fs
                  have fs := hS.says
                  simp only [says, Ck.say] at fs
                  have e1 : wr.drew.cell? ⟨h3, j, none⟩ = some (.int .i64 gj) := e1
                  generalize wr.drew = wr2 at *
                  refine' GoL.take 0 [] ?_ ?_ ?_ ?_ ?_
                  rotate_left 3
                  · (simp only [lg0, lg1, lg2]; rfl)
                  · exact fun _ _ _ h => h
                  · (refine Or.inl ⟨by first | kernel_rfl | (simp [Region.wanted, yielded]), ?_⟩; intro w hSw; clear hSw; go_simp; first | done | with_reducible rfl)
                  rotate_left 1
                  · kernel_rfl
                  simp only [Act.put, lt0', lt1', lt2']
                  refine' GoL.take 1 [] ?_ ?_ ?_ ?_ ?_
                  rotate_left 3
                  · (simp only [lg0, lg1, lg2]; rfl)
                  · exact fun _ _ _ h => h
                  · (refine Or.inl ⟨by first | kernel_rfl | (simp [Region.wanted, yielded]), ?_⟩; intro w hSw; have f0 := Facts.get hSw 0 rfl (by decide); (try dsimp only at f0); clear hSw; go_simp; first | done | with_reducible rfl)
                  rotate_left 1
                  · kernel_rfl
                  simp only [Act.put, lt0', lt1', lt2']
                  refine' GoL.take 2 [] ?_ ?_ ?_ ?_ ?_
                  rotate_left 3
                  · (simp only [lg0, lg1, lg2]; rfl)
                  · exact fun _ _ _ h => h
                  · (refine Or.inl ⟨by first | kernel_rfl | (simp [Region.wanted, yielded]), ?_⟩; intro w hSw; clear hSw; go_simp; first | done | with_reducible rfl)
                  rotate_left 1
                  · kernel_rfl
                  simp only [Act.put, lt0', lt1', lt2']
                  refine' GoL.take 3 [] ?_ ?_ ?_ ?_ ?_
                  rotate_left 3
                  · (simp only [lg0, lg1, lg2]; rfl)
                  · exact fun _ _ _ h => h
                  · (refine Or.inl ⟨by first | kernel_rfl | (simp [Region.wanted, yielded]), ?_⟩; intro w hSw; clear hSw; go_simp; first | done | with_reducible rfl)
                  rotate_left 1
                  · kernel_rfl
                  simp only [Act.put, lt0', lt1', lt2']
                  refine' GoL.take 4 [] ?_ ?_ ?_ ?_ ?_
                  rotate_left 3
                  · (simp only [lg0, lg1, lg2]; rfl)
                  · exact fun _ _ _ h => h
                  · (refine Or.inl ⟨by first | kernel_rfl | (simp [Region.wanted, yielded]), ?_⟩; intro w hSw; have f1 := Facts.get hSw 1 rfl (by decide); (try dsimp only at f1); clear hSw; go_simp; first | done | with_reducible rfl)
                  rotate_left 1
                  · kernel_rfl
                  simp only [Act.put, lt0', lt1', lt2']
                  refine' GoL.take 5 [] ?_ ?_ ?_ ?_ ?_
                  rotate_left 3
                  · (simp only [lg0, lg1, lg2]; rfl)
                  · exact fun _ _ _ h => h
                  · (refine Or.inl ⟨by first | kernel_rfl | (simp [Region.wanted, yielded]), ?_⟩; intro w hSw; clear hSw; go_simp; first | done | with_reducible rfl)
                  rotate_left 1
                  · kernel_rfl
                  simp only [Act.put, lt0', lt1', lt2']
                  refine' GoL.take 6 [] ?_ ?_ ?_ ?_ ?_
                  rotate_left 3
                  · (simp only [lg0, lg1, lg2]; rfl)
                  · exact fun _ _ _ h => h
                  · (refine Or.inl ⟨by first | kernel_rfl | (simp [Region.wanted, yielded]), ?_⟩; intro w hSw; have f0 := Facts.get hSw 0 rfl (by decide); (try dsimp only at f0); clear hSw; go_simp; first | done | with_reducible rfl)
                  rotate_left 1
                  · kernel_rfl
                  simp only [Act.put, lt0', lt1', lt2']
                  refine' GoL.take 7 [] ?_ ?_ ?_ ?_ ?_
                  rotate_left 3
                  · (simp only [lg0, lg1, lg2]; rfl)
                  · exact fun _ _ _ h => h
                  · (refine Or.inl ⟨by first | kernel_rfl | (simp [Region.wanted, yielded]), ?_⟩; intro w hSw; clear hSw; go_simp; first | done | with_reducible rfl)
                  rotate_left 1
                  · kernel_rfl
                  simp only [Act.put, lt0', lt1', lt2']
                  refine GoL.done (by kernel_rfl) ?_
                  go_wp2_with fail
                  go_roundw
                  case rel => exact ⟨j + 1, by omega, by first | rfl | go_num, hS⟩
                  case measure => simp [intOf]; omega
                · obtain rfl : j = n' := by omega
                  go_upto_region 21 with fail
                  go_wp2_with fail
                  have hS := ((((hS.set 1 rfl 0 (.slice (some ⟨g3, 0, none⟩) j c3)).set 1 rfl 1 (.slice (some ⟨h3, 0, none⟩) j d3)).set 1 rfl 2 (.int .i64 lv')).set 1 rfl 3 (.bool false))
                  simp only [List.set_cons_zero, List.set_cons_succ, List.setIfInBounds_toArray] at hS
                  go_roundw
                  case rel =>
                    have h8 := hS.pick [1, 2, 3] (by decide) rfl (K := [(cx, .cel #[.slice (some ⟨g3, 0, none⟩) j c3, .slice (some ⟨h3, 0, none⟩) j d3, .int .i64 lv', .bool false] 30), (g3, ivCh 3 c3 M'), (h3, ivCh 3 d3 G')])
                    exact ⟨k + 1, M', G', lv', false, j, (g3, c3, h3, d3), by omega, by omega, by first | rfl | go_num, rfl, HDO, HN', h8⟩
                  case measure => simp [intOf]; omega
      · obtain rfl : k = 40 := by omega
        go_upto_region 23 with (go_at_call 14; rw [EC.out]; refine Sat.callF hS (lPut g1 c1 h1 d1 ⟨M, G, lv, fn⟩ _ (hS.cf 1 2 rfl rfl (by decide)) HOK.out) (fun wa hS => ?_); clear fs; have fs := hS.says; simp only [says, Ck.say] at fs)
        go_upto_region 24 with (go_at_call 15; refine cGetYes hS ⟨M, G, lv, fn⟩ HOK.out rfl ?_; rintro ⟨g5, c5, h5, d5⟩ wb hS; dsimp only at hS; simp only [cfC, ivV, HN.out.1, HN.out.2]; clear fs; have fs := hS.says; simp only [says, Ck.say] at fs)
        have hS := hS.new _ rfl #[.slice (some ⟨g5, 0, none⟩) n c5, .slice (some ⟨h5, 0, none⟩) n d5, .int .i64 lv, .bool fn] 30
        generalize wb.heap.size = xx at *
        generalize wb.alloc (.cells #[.slice (some ⟨g5, 0, none⟩) n c5, .slice (some ⟨h5, 0, none⟩) n d5, .int .i64 lv, .bool fn] 30) = wc at *
        clear fs
        have fs := hS.says
        simp only [says, Ck.say] at fs
        have EX : Hid ((#[.slice (some ⟨g5, 0, none⟩) n c5, .slice (some ⟨h5, 0, none⟩) n d5, .int .i64 lv, .bool fn] : Array Value) = cfC g5 c5 h5 d5 ⟨M, G, lv, fn⟩) := by
          show _ = _
          unfold cfC ivV
          rw [HN.out.1, HN.out.2]
        refine GoL.begin [(none, fun w => ∀ i, w.cell? ⟨xx, i, none⟩ = #[.slice (some ⟨g5, 0, none⟩) n c5, .slice (some ⟨h5, 0, none⟩) n d5, .int .i64 lv, .bool fn][i]?), (none, fun w => ∀ i, w.cell? ⟨cx, i, none⟩ = #[.slice (some ⟨g1, 0, none⟩) n c1, .slice (some ⟨h1, 0, none⟩) n d1, .int .i64 lv, .bool fn][i]?)] (by kernel_rfl) ?_ ?_
        · exact (Facts.cons_at (.inr (by simp [fs])) (Facts.cons_at (.inr (by simp [fs])) Facts.nil_at))
        have hS := hS.drew
        clear fs
        have fs := hS.says
        simp only [says, Ck.say] at fs
        generalize wc.drew = wy at *
        refine' GoL.take 0 [] ?_ ?_ ?_ ?_ ?_
        rotate_left 3
        · (simp only [lg0, lg1, lg2]; rfl)
        · exact fun _ _ _ h => h
        · (refine Or.inl ⟨by first | kernel_rfl | (simp [Region.wanted, yielded]), ?_⟩; intro w hSw; clear hSw; go_simp; first | done | with_reducible rfl)
        rotate_left 1
        · kernel_rfl
        simp only [Act.put, lt0', lt1', lt2']
        refine' GoL.take 1 [] ?_ ?_ ?_ ?_ ?_
        rotate_left 3
        · (simp only [lg0, lg1, lg2]; rfl)
        · exact fun _ _ _ h => h
        · (refine Or.inl ⟨by first | kernel_rfl | (simp [Region.wanted, yielded]), ?_⟩; intro w hSw; clear hSw; go_simp; first | done | with_reducible rfl)
        rotate_left 1
        · kernel_rfl
        simp only [Act.put, lt0', lt1', lt2']
        refine' GoL.take 2 [] ?_ ?_ ?_ ?_ ?_
        rotate_left 3
        · (simp only [lg0, lg1, lg2]; rfl)
        · exact fun _ _ _ h => h
        · (refine Or.inl ⟨by first | kernel_rfl | (simp [Region.wanted, yielded]), ?_⟩; intro w hSw; clear hSw; go_simp; first | done | with_reducible rfl)
        rotate_left 1
        · kernel_rfl
        simp only [Act.put, lt0', lt1', lt2']
        refine' GoL.take 3 [] ?_ ?_ ?_ ?_ ?_
        rotate_left 3
        · (simp only [lg0, lg1, lg2]; rfl)
        · exact fun _ _ _ h => h
        · (refine Or.inl ⟨by first | kernel_rfl | (simp [Region.wanted, yielded]), ?_⟩; intro w hSw; clear hSw; go_simp; first | done | with_reducible rfl)
        rotate_left 1
        · kernel_rfl
        simp only [Act.put, lt0', lt1', lt2']
        refine' GoL.take 4 [] ?_ ?_ ?_ ?_ ?_
        rotate_left 3
        · (simp only [lg0, lg1, lg2]; rfl)
        · exact fun _ _ _ h => h
        · (refine Or.inl ⟨by first | kernel_rfl | (simp [Region.wanted, yielded]), ?_⟩; intro w hSw; clear hSw; go_simp; first | done | with_reducible rfl)
        rotate_left 1
        · kernel_rfl
        simp only [Act.put, lt0', lt1', lt2']
        refine' GoL.take 5 [] ?_ ?_ ?_ ?_ ?_
        rotate_left 3
        · (simp only [lg0, lg1, lg2]; rfl)
        · exact fun _ _ _ h => h
        · (refine Or.inl ⟨by first | kernel_rfl | (simp [Region.wanted, yielded]), ?_⟩; intro w hSw; clear hSw; go_simp; first | done | with_reducible rfl)
        rotate_left 1
        · kernel_rfl
        simp only [Act.put, lt0', lt1', lt2']
        refine' GoL.take 6 [] ?_ ?_ ?_ ?_ ?_
        rotate_left 3
        · (simp only [lg0, lg1, lg2]; rfl)
        · exact fun _ _ _ h => h
        · (refine Or.inl ⟨by first | kernel_rfl | (simp [Region.wanted, yielded]), ?_⟩; intro w hSw; clear hSw; go_simp; first | done | with_reducible rfl)
        rotate_left 1
        · kernel_rfl
        simp only [Act.put, lt0', lt1', lt2']
        refine' GoL.take 7 [] ?_ ?_ ?_ ?_ ?_
        rotate_left 3
        · (simp only [lg0, lg1, lg2]; rfl)
        · exact fun _ _ _ h => h
        · (refine Or.inl ⟨by first | kernel_rfl | (simp [Region.wanted, yielded]), ?_⟩; intro w hSw; clear hSw; go_simp; first | done | with_reducible rfl)
        rotate_left 1
        · kernel_rfl
        simp only [Act.put, lt0', lt1', lt2']
        refine' GoL.take 8 [] ?_ ?_ ?_ ?_ ?_
        rotate_left 3
        · (simp only [lg0, lg1, lg2]; rfl)
        · exact fun _ _ _ h => h
        · (refine Or.inl ⟨by first | kernel_rfl | (simp [Region.wanted, yielded]), ?_⟩; intro w hSw; have f0 := Facts.get hSw 0 rfl (by decide); (try dsimp only at f0); clear hSw; go_simp; first | done | with_reducible rfl)
        rotate_left 1
        · kernel_rfl
        simp only [Act.put, lt0', lt1', lt2']
        refine' GoL.take 10 [] ?_ ?_ ?_ ?_ ?_
        rotate_left 3
        · (simp only [lg0, lg1, lg2]; rfl)
        · exact fun _ _ _ h => h
        · (refine Or.inl ⟨by first | kernel_rfl | (simp [Region.wanted, yielded]), ?_⟩; intro w hSw; have f1 := Facts.get hSw 1 rfl (by decide); (try dsimp only at f1); clear hSw; go_simp; first | done | with_reducible rfl)
        rotate_left 1
        · kernel_rfl
        simp only [Act.put, lt0', lt1', lt2']
        refine GoL.ready [9] (by kernel_rfl) (by simp) ?_
        refine GoL.one (by (simp only [lg0, lg1, lg2]; rfl)) (fun K hK => ?_) ?_
        · go_simp
          rw [EX.out]
          refine Sat.callF hS (lText g5 c5 h5 d5 ⟨M, G, lv, fn⟩ _ (hS.cf 1 2 rfl rfl (by decide)) HOK.out) (fun wd hS => ?_)
          clear fs
          have fs := hS.says
          simp only [says, Ck.say] at fs
          refine hK.out _ _ ?_ ?_
          · exact (Facts.cons_at (.inr (by simp [fs])) (Facts.cons_at (.inr (by simp [fs])) Facts.nil_at))
          clear hK K
          try simp only [Act.put, lt0', lt1', lt2']
          refine GoL.ready [11] (by kernel_rfl) (by simp) ?_
          refine GoL.one (by (simp only [lg0, lg1, lg2]; rfl)) (fun K hK => ?_) ?_
          · go_simp
            rw [EC.out]
            refine Sat.callF hS (lText g1 c1 h1 d1 ⟨M, G, lv, fn⟩ _ (hS.cf 4 5 rfl rfl (by decide)) HOK.out) (fun we hS => ?_)
            clear fs
            have fs := hS.says
            simp only [says, Ck.say] at fs
            refine hK.out _ _ ?_ ?_
            · exact (Facts.cons_at (.inr (by simp [fs])) (Facts.cons_at (.inr (by simp [fs])) Facts.nil_at))
            clear hK K
            try simp only [Act.put, lt0', lt1', lt2']
            refine' GoL.take 12 [] ?_ ?_ ?_ ?_ ?_
            rotate_left 3
            · (simp only [lg0, lg1, lg2]; rfl)
            · exact fun _ _ _ h => h
            · (refine Or.inl ⟨by first | kernel_rfl | (simp [Region.wanted, yielded]), ?_⟩; intro w hSw; clear hSw; go_simp; first | done | with_reducible rfl)
            rotate_left 1
            · kernel_rfl
            simp only [Act.put, lt0', lt1', lt2']
            refine' GoL.take 13 [] ?_ ?_ ?_ ?_ ?_
            rotate_left 3
            · (simp only [lg0, lg1, lg2]; rfl)
            · exact fun _ _ _ h => h
            · (refine Or.inl ⟨by first | kernel_rfl | (simp [Region.wanted, yielded]), ?_⟩; intro w hSw; clear hSw; go_simp; first | done | with_reducible rfl)
            rotate_left 1
            · kernel_rfl
            simp only [Act.put, lt0', lt1', lt2']
            refine' GoL.take 14 [] ?_ ?_ ?_ ?_ ?_
            rotate_left 3
            · (simp only [lg0, lg1, lg2]; rfl)
            · exact fun _ _ _ h => h
            · (refine Or.inl ⟨by first | kernel_rfl | (simp [Region.wanted, yielded]), ?_⟩; intro w hSw; clear hSw; go_simp; first | done | with_reducible rfl)
            rotate_left 1
            · kernel_rfl
            simp only [Act.put, lt0', lt1', lt2']
            refine GoL.done (by kernel_rfl) ?_
            go_wp2_with fail
            go_ret
            exact ⟨rfl, hS.fr⟩
          exact AllL.nil
        exact AllL.nil
    · obtain rfl : k = ln := by omega
      go_upto_region 23 with (go_at_call 14; rw [EC.out]; refine Sat.callF hS (lPut g1 c1 h1 d1 ⟨M, G, lv, fn⟩ _ (hS.cf 1 2 rfl rfl (by decide)) HOK.out) (fun wa hS => ?_); clear fs; have fs := hS.says; simp only [says, Ck.say] at fs)
      go_upto_region 24 with (go_at_call 15; refine cGetYes hS ⟨M, G, lv, fn⟩ HOK.out rfl ?_; rintro ⟨g5, c5, h5, d5⟩ wb hS; dsimp only at hS; simp only [cfC, ivV, HN.out.1, HN.out.2]; clear fs; have fs := hS.says; simp only [says, Ck.say] at fs)
      have hS := hS.new _ rfl #[.slice (some ⟨g5, 0, none⟩) n c5, .slice (some ⟨h5, 0, none⟩) n d5, .int .i64 lv, .bool fn] 30
      generalize wb.heap.size = xx at *
      generalize wb.alloc (.cells #[.slice (some ⟨g5, 0, none⟩) n c5, .slice (some ⟨h5, 0, none⟩) n d5, .int .i64 lv, .bool fn] 30) = wc at *
      clear fs
      have fs := hS.says
      simp only [says, Ck.say] at fs
      have EX : Hid ((#[.slice (some ⟨g5, 0, none⟩) n c5, .slice (some ⟨h5, 0, none⟩) n d5, .int .i64 lv, .bool fn] : Array Value) = cfC g5 c5 h5 d5 ⟨M, G, lv, fn⟩) := by
        show _ = _
        unfold cfC ivV
        rw [HN.out.1, HN.out.2]
      refine GoL.begin [(none, fun w => ∀ i, w.cell? ⟨xx, i, none⟩ = #[.slice (some ⟨g5, 0, none⟩) n c5, .slice (some ⟨h5, 0, none⟩) n d5, .int .i64 lv, .bool fn][i]?), (none, fun w => ∀ i, w.cell? ⟨cx, i, none⟩ = #[.slice (some ⟨g1, 0, none⟩) n c1, .slice (some ⟨h1, 0, none⟩) n d1, .int .i64 lv, .bool fn][i]?)] (by kernel_rfl) ?_ ?_
      · exact (Facts.cons_at (.inr (by simp [fs])) (Facts.cons_at (.inr (by simp [fs])) Facts.nil_at))
      have hS := hS.drew
      clear fs
      have fs := hS.says
      simp only [says, Ck.say] at fs
      generalize wc.drew = wy at *
      refine' GoL.take 0 [] ?_ ?_ ?_ ?_ ?_
      rotate_left 3
      · (simp only [lg0, lg1, lg2]; rfl)
      · exact fun _ _ _ h => h
      · (refine Or.inl ⟨by first | kernel_rfl | (simp [Region.wanted, yielded]), ?_⟩; intro w hSw; clear hSw; go_simp; first | done | with_reducible rfl)
      rotate_left 1
      · kernel_rfl
      simp only [Act.put, lt0', lt1', lt2']
      refine' GoL.take 1 [] ?_ ?_ ?_ ?_ ?_
      rotate_left 3
      · (simp only [lg0, lg1, lg2]; rfl)
      · exact fun _ _ _ h => h
      · (refine Or.inl ⟨by first | kernel_rfl | (simp [Region.wanted, yielded]), ?_⟩; intro w hSw; clear hSw; go_simp; first | done | with_reducible rfl)
      rotate_left 1
      · kernel_rfl
      simp only [Act.put, lt0', lt1', lt2']
      refine' GoL.take 2 [] ?_ ?_ ?_ ?_ ?_
      rotate_left 3
      · (simp only [lg0, lg1, lg2]; rfl)
      · exact fun _ _ _ h => h
      · (refine Or.inl ⟨by first | kernel_rfl | (simp [Region.wanted, yielded]), ?_⟩; intro w hSw; clear hSw; go_simp; first | done | with_reducible rfl)
      rotate_left 1
      · kernel_rfl
      simp only [Act.put, lt0', lt1', lt2']
      refine' GoL.take 3 [] ?_ ?_ ?_ ?_ ?_
      rotate_left 3
      · (simp only [lg0, lg1, lg2]; rfl)
      · exact fun _ _ _ h => h
      · (refine Or.inl ⟨by first | kernel_rfl | (simp [Region.wanted, yielded]), ?_⟩; intro w hSw; clear hSw; go_simp; first | done | with_reducible rfl)
      rotate_left 1
      · kernel_rfl
      simp only [Act.put, lt0', lt1', lt2']
      refine' GoL.take 4 [] ?_ ?_ ?_ ?_ ?_
      rotate_left 3
      · (simp only [lg0, lg1, lg2]; rfl)
      · exact fun _ _ _ h => h
      · (refine Or.inl ⟨by first | kernel_rfl | (simp [Region.wanted, yielded]), ?_⟩; intro w hSw; clear hSw; go_simp; first | done | with_reducible rfl)
      rotate_left 1
      · kernel_rfl
      simp only [Act.put, lt0', lt1', lt2']
      refine' GoL.take 5 [] ?_ ?_ ?_ ?_ ?_
      rotate_left 3
      · (simp only [lg0, lg1, lg2]; rfl)
      · exact fun _ _ _ h => h
      · (refine Or.inl ⟨by first | kernel_rfl | (simp [Region.wanted, yielded]), ?_⟩; intro w hSw; clear hSw; go_simp; first | done | with_reducible rfl)
      rotate_left 1
      · kernel_rfl
      simp only [Act.put, lt0', lt1', lt2']
      refine' GoL.take 6 [] ?_ ?_ ?_ ?_ ?_
      rotate_left 3
      · (simp only [lg0, lg1, lg2]; rfl)
      · exact fun _ _ _ h => h
      · (refine Or.inl ⟨by first | kernel_rfl | (simp [Region.wanted, yielded]), ?_⟩; intro w hSw; clear hSw; go_simp; first | done | with_reducible rfl)
      rotate_left 1
      · kernel_rfl
      simp only [Act.put, lt0', lt1', lt2']
      refine' GoL.take 7 [] ?_ ?_ ?_ ?_ ?_
      rotate_left 3
      · (simp only [lg0, lg1, lg2]; rfl)
      · exact fun _ _ _ h => h
      · (refine Or.inl ⟨by first | kernel_rfl | (simp [Region.wanted, yielded]), ?_⟩; intro w hSw; clear hSw; go_simp; first | done | with_reducible rfl)
      rotate_left 1
      · kernel_rfl
      simp only [Act.put, lt0', lt1', lt2']
      refine' GoL.take 8 [] ?_ ?_ ?_ ?_ ?_
      rotate_left 3
      · (simp only [lg0, lg1, lg2]; rfl)
      · exact fun _ _ _ h => h
      · (refine Or.inl ⟨by first | kernel_rfl | (simp [Region.wanted, yielded]), ?_⟩; intro w hSw; have f0 := Facts.get hSw 0 rfl (by decide); (try dsimp only at f0); clear hSw; go_simp; first | done | with_reducible rfl)
      rotate_left 1
      · kernel_rfl
      simp only [Act.put, lt0', lt1', lt2']
      refine' GoL.take 10 [] ?_ ?_ ?_ ?_ ?_
      rotate_left 3
      · (simp only [lg0, lg1, lg2]; rfl)
      · exact fun _ _ _ h => h
      · (refine Or.inl ⟨by first | kernel_rfl | (simp [Region.wanted, yielded]), ?_⟩; intro w hSw; have f1 := Facts.get hSw 1 rfl (by decide); (try dsimp only at f1); clear hSw; go_simp; first | done | with_reducible rfl)
      rotate_left 1
      · kernel_rfl
      simp only [Act.put, lt0', lt1', lt2']
      refine GoL.ready [9] (by kernel_rfl) (by simp) ?_
      refine GoL.one (by (simp only [lg0, lg1, lg2]; rfl)) (fun K hK => ?_) ?_
      · go_simp
        rw [EX.out]
        refine Sat.callF hS (lText g5 c5 h5 d5 ⟨M, G, lv, fn⟩ _ (hS.cf 1 2 rfl rfl (by decide)) HOK.out) (fun wd hS => ?_)
        clear fs
        have fs := hS.says
        simp only [says, Ck.say] at fs
        refine hK.out _ _ ?_ ?_
        · exact (Facts.cons_at (.inr (by simp [fs])) (Facts.cons_at (.inr (by simp [fs])) Facts.nil_at))
        clear hK K
        try simp only [Act.put, lt0', lt1', lt2']
        refine GoL.ready [11] (by kernel_rfl) (by simp) ?_
        refine GoL.one (by (simp only [lg0, lg1, lg2]; rfl)) (fun K hK => ?_) ?_
        · go_simp
          rw [EC.out]
          refine Sat.callF hS (lText g1 c1 h1 d1 ⟨M, G, lv, fn⟩ _ (hS.cf 4 5 rfl rfl (by decide)) HOK.out) (fun we hS => ?_)
          clear fs
          have fs := hS.says
          simp only [says, Ck.say] at fs
          refine hK.out _ _ ?_ ?_
          · exact (Facts.cons_at (.inr (by simp [fs])) (Facts.cons_at (.inr (by simp [fs])) Facts.nil_at))
          clear hK K
          try simp only [Act.put, lt0', lt1', lt2']
          refine' GoL.take 12 [] ?_ ?_ ?_ ?_ ?_
          rotate_left 3
          · (simp only [lg0, lg1, lg2]; rfl)
          · exact fun _ _ _ h => h
          · (refine Or.inl ⟨by first | kernel_rfl | (simp [Region.wanted, yielded]), ?_⟩; intro w hSw; clear hSw; go_simp; first | done | with_reducible rfl)
          rotate_left 1
          · kernel_rfl
          simp only [Act.put, lt0', lt1', lt2']
          refine' GoL.take 13 [] ?_ ?_ ?_ ?_ ?_
          rotate_left 3
          · (simp only [lg0, lg1, lg2]; rfl)
          · exact fun _ _ _ h => h
          · (refine Or.inl ⟨by first | kernel_rfl | (simp [Region.wanted, yielded]), ?_⟩; intro w hSw; clear hSw; go_simp; first | done | with_reducible rfl)
          rotate_left 1
          · kernel_rfl
          simp only [Act.put, lt0', lt1', lt2']
          refine' GoL.take 14 [] ?_ ?_ ?_ ?_ ?_
          rotate_left 3
          · (simp only [lg0, lg1, lg2]; rfl)
          · exact fun _ _ _ h => h
          · (refine Or.inl ⟨by first | kernel_rfl | (simp [Region.wanted, yielded]), ?_⟩; intro w hSw; clear hSw; go_simp; first | done | with_reducible rfl)
          rotate_left 1
          · kernel_rfl
          simp only [Act.put, lt0', lt1', lt2']
          refine GoL.done (by kernel_rfl) ?_
          go_wp2_with fail
          go_ret
          exact ⟨rfl, hS.fr⟩
        exact AllL.nil
      exact AllL.nil
end Go.Proofs.YtnnpjjehecbljaaGreatDoor

namespace Go.Proofs.YtnnpjjehecbljaaGreatDoor
open Go.RowKit

theorem lKeeps (b : Int) (h : 0 ≤ b ∧ b ≤ 255) (la : Option Addr) (ln lc : Nat) (l : List Ent) (hl : ln ≤ maxLen) (w : World) (hm : Mrow w la ln l) :
    Calls Tryz.prog 4 #[.int .u8 b, .slice la ln lc] w fun e w' => e = .returned (.bool true) ∧ Fr [] w w' := by
  have := lKeepsN b.toNat (by omega) la ln lc l w hl hm
  rwa [show ((b.toNat : Nat) : Int) = b by omega] at this
end Go.Proofs.YtnnpjjehecbljaaGreatDoor

namespace Go.Proofs.YtnnpjjehecbljaaGreatDoor
open Go.ChangeShapes Go.WideShapes Go.RowKit

/-- What the rows list. -/
def laidL : List (String × DataW Unit) := [("math/bits.deBruijn32tab", Rows.laid_math_bits_deBruijn32tab), ("math/bits.deBruijn64tab", Rows.laid_math_bits_deBruijn64tab), ("internal/strconv.uint64pow10", Rows.laid_internal_strconv_uint64pow10)]
end Go.Proofs.YtnnpjjehecbljaaGreatDoor

namespace Go.Proofs.YtnnpjjehecbljaaGreatDoor
open Go.ChangeShapes Go.WideShapes Go.RowKit Go.Deep
set_option maxRecDepth 100000

section
variable {H : Type} {enc : TypeId × Value → H} {w : World} {base : Nat} {spare : Nat → Bool} {held : Bool}

theorem one_u64 (hc : Tryz.prog.cellsOf 22 = 1) {n : Nat} {L : List Value} {v : Value} (hL : L.take 1 = [v]) {y : Option (DataW H × List MemPlace)} (hy : ∃ z, y = some z) (h : DataW.trod enc Tryz.prog w base spare held n 22 (List.take (Tryz.prog.cellsOf 22) L) = y) : ∃ x : Int, v = .int .u64 x ∧ U64 x := by
  obtain ⟨z, rfl⟩ := hy
  rw [hc, hL] at h
  obtain ⟨x, e, -, wf⟩ := DataW.trod_int Tryz.underlying22 h
  simp at e
  have := bounds_u64 wf
  exact ⟨x, e, by unfold U64; omega⟩
theorem one_i64 (hc : Tryz.prog.cellsOf 3 = 1) {n : Nat} {L : List Value} {v : Value} (hL : L.take 1 = [v]) {y : Option (DataW H × List MemPlace)} (hy : ∃ z, y = some z) (h : DataW.trod enc Tryz.prog w base spare held n 3 (List.take (Tryz.prog.cellsOf 3) L) = y) : ∃ x : Int, v = .int .i64 x ∧ -9223372036854775808 ≤ x ∧ x ≤ 9223372036854775807 := by
  obtain ⟨z, rfl⟩ := hy
  rw [hc, hL] at h
  obtain ⟨x, e, -, wf⟩ := DataW.trod_int Tryz.underlying3 h
  simp at e
  exact ⟨x, e, bounds_i64 wf⟩
theorem one_str (hc : Tryz.prog.cellsOf 9 = 1) {n : Nat} {L : List Value} {v : Value} (hL : L.take 1 = [v]) {y : Option (DataW H × List MemPlace)} (hy : ∃ z, y = some z) (h : DataW.trod enc Tryz.prog w base spare held n 9 (List.take (Tryz.prog.cellsOf 9) L) = y) : ∃ x : ByteArray, v = .string x ∧ x.size ≤ maxLen := by
  obtain ⟨z, rfl⟩ := hy
  rw [hc, hL] at h
  obtain ⟨x, e, -, wf⟩ := DataW.trod_string Tryz.underlying9 h
  simp at e
  exact ⟨x, e, wf⟩
theorem one_bool (hc : Tryz.prog.cellsOf 4 = 1) {n : Nat} {L : List Value} {v : Value} (hL : L.take 1 = [v]) {y : Option (DataW H × List MemPlace)} (hy : ∃ z, y = some z) (h : DataW.trod enc Tryz.prog w base spare held n 4 (List.take (Tryz.prog.cellsOf 4) L) = y) : ∃ x : Bool, v = .bool x := by
  obtain ⟨z, rfl⟩ := hy
  rw [hc, hL] at h
  obtain ⟨x, e, -⟩ := DataW.trod_bool Tryz.underlying4 h
  simp at e
  exact ⟨x, e⟩
theorem c_u64 : Tryz.prog.cellsOf 22 = 1 := by kernel_rfl
theorem c_i64 : Tryz.prog.cellsOf 3 = 1 := by kernel_rfl
theorem c_str : Tryz.prog.cellsOf 9 = 1 := by kernel_rfl
theorem c_bool : Tryz.prog.cellsOf 4 = 1 := by kernel_rfl
theorem c_ent : Tryz.prog.cellsOf 24 = 11 := by kernel_rfl
theorem c_made : Tryz.prog.cellsOf 26 = 12 := by kernel_rfl
theorem c_mades : Tryz.prog.cellsOf 41 = 1 := by kernel_rfl

theorem some_at {α : Type} {xs : List α} {n i : Nat} (h : xs.length = n) (hi : i < n) : ∃ z, xs[i]? = some z := ⟨_, List.getElem?_eq_getElem (by omega)⟩

theorem ent_of {n : Nat} {cs : List Value} {y : DataW H × List MemPlace} (h : DataW.trod enc Tryz.prog w base spare held n 24 cs = some y) : ∃ e : Ent, e.Fits ∧ cs = e.cells.toList := by
  obtain ⟨xs, m, _, _, hlen, hx, hf⟩ := DataW.trod_struct Tryz.underlying24 h
  rw [c_ent] at hlen
  have hx' : xs.length = 11 := hx
  match cs, hlen with
  | [c0, c1, c2, c3, c4, c5, c6, c7, c8, c9, c10], _ =>
    obtain ⟨t, rfl, ft⟩ := one_u64 c_u64 (L := ([c0, c1, c2, c3, c4, c5, c6, c7, c8, c9, c10] : List Value)) (v := c0) rfl (some_at hx' (i := 0) (by decide)) (hf 0 _ rfl)
    obtain ⟨ix, rfl, fi⟩ := one_u64 c_u64 (L := ([c1, c2, c3, c4, c5, c6, c7, c8, c9, c10] : List Value)) (v := c1) rfl (some_at hx' (i := 1) (by decide)) (hf 1 _ rfl)
    obtain ⟨k, rfl, fk⟩ := one_i64 c_i64 (L := ([c2, c3, c4, c5, c6, c7, c8, c9, c10] : List Value)) (v := c2) rfl (some_at hx' (i := 2) (by decide)) (hf 2 _ rfl)
    obtain ⟨cl, rfl, fcl⟩ := one_u64 c_u64 (L := ([c3, c4, c5, c6, c7, c8, c9, c10] : List Value)) (v := c3) rfl (some_at hx' (i := 3) (by decide)) (hf 3 _ rfl)
    obtain ⟨sq, rfl, fsq⟩ := one_u64 c_u64 (L := ([c4, c5, c6, c7, c8, c9, c10] : List Value)) (v := c4) rfl (some_at hx' (i := 4) (by decide)) (hf 4 _ rfl)
    obtain ⟨bl, rfl, fbl⟩ := one_u64 c_u64 (L := ([c5, c6, c7, c8, c9, c10] : List Value)) (v := c5) rfl (some_at hx' (i := 5) (by decide)) (hf 5 _ rfl)
    obtain ⟨mn, rfl, fmn⟩ := one_u64 c_u64 (L := ([c6, c7, c8, c9, c10] : List Value)) (v := c6) rfl (some_at hx' (i := 6) (by decide)) (hf 6 _ rfl)
    obtain ⟨nd, rfl, fnd⟩ := one_i64 c_i64 (L := ([c7, c8, c9, c10] : List Value)) (v := c7) rfl (some_at hx' (i := 7) (by decide)) (hf 7 _ rfl)
    obtain ⟨lv, rfl, flv⟩ := one_i64 c_i64 (L := ([c8, c9, c10] : List Value)) (v := c8) rfl (some_at hx' (i := 8) (by decide)) (hf 8 _ rfl)
    obtain ⟨da, rfl, fda⟩ := one_str c_str (L := ([c9, c10] : List Value)) (v := c9) rfl (some_at hx' (i := 9) (by decide)) (hf 9 _ rfl)
    obtain ⟨ol, rfl, fol⟩ := one_str c_str (L := ([c10] : List Value)) (v := c10) rfl (some_at hx' (i := 10) (by decide)) (hf 10 _ rfl)
    exact ⟨⟨t, ix, k, cl, sq, bl, mn, nd, lv, da, ol⟩, ⟨ft, fi, fcl, fsq, fbl, fmn, fda, fol⟩, rfl⟩

theorem made_of {n : Nat} {cs : List Value} {y : DataW H × List MemPlace} (h : DataW.trod enc Tryz.prog w base spare held n 26 cs = some y) : ∃ (e : Ent) (q : Bool), e.Fits ∧ cs = e.cells.toList ++ [.bool q] := by
  obtain ⟨xs, m, _, _, hlen, hx, hf⟩ := DataW.trod_struct Tryz.underlying26 h
  rw [c_made] at hlen
  have hx' : xs.length = 2 := hx
  match cs, hlen with
  | [c0, c1, c2, c3, c4, c5, c6, c7, c8, c9, c10, c11], _ =>
    obtain ⟨z, hz⟩ := some_at hx' (i := 0) (by decide)
    have h0 : DataW.trod enc Tryz.prog w base spare held m 24 (List.take (Tryz.prog.cellsOf 24) [c0, c1, c2, c3, c4, c5, c6, c7, c8, c9, c10, c11]) = xs[0]? := hf 0 _ rfl
    rw [hz, c_ent] at h0
    obtain ⟨e, fe, he⟩ := ent_of h0
    obtain ⟨q, rfl⟩ := one_bool c_bool (L := ([c11] : List Value)) (v := c11) rfl (some_at hx' (i := 1) (by decide)) (hf 1 _ rfl)
    refine ⟨e, q, fe, ?_⟩
    rw [← he]
    rfl

/-- A list of what is there at each place. -/
theorem list_of {α : Type} {p : Nat → α → Prop} : ∀ {n : Nat}, (∀ i, i < n → ∃ x, p i x) → ∃ l : List α, l.length = n ∧ ∀ i (hi : i < l.length), p i l[i] := by
  intro n
  induction n with
  | zero => intro _; exact ⟨[], rfl, fun i hi => by simp at hi⟩
  | succ n ih =>
    intro h
    obtain ⟨l, h1, h2⟩ := ih (fun i hi => h i (by omega))
    obtain ⟨x, hx⟩ := h n (by omega)
    refine ⟨l ++ [x], by simp [h1], fun i hi => ?_⟩
    rw [List.getElem_append]
    split
    · rename_i h3; exact h2 i h3
    · rename_i h3
      have : i = n := by simp at hi; omega
      subst this
      simpa [h1] using hx

theorem add_plain (b o k : Nat) : (⟨b, o, none⟩ : Addr).add k = ⟨b, o + k, none⟩ := by
  unfold Addr.add
  split
  · rename_i h; subst h; rfl
  · rfl
theorem addr_plain {a : Addr} {v : Value} (h : w.cell? a = some v) : ∃ b o, a = ⟨b, o, none⟩ := by
  obtain ⟨b, o, sp⟩ := a
  cases sp with
  | none => exact ⟨b, o, rfl⟩
  | some z =>
    exfalso
    unfold World.cell? at h
    split at h <;> simp at h


theorem mades_of {n : Nat} {cs : List Value} {y : DataW H × List MemPlace} (h : DataW.trod enc Tryz.prog w base spare held n 41 cs = some y) :
    ∃ (a : Option Addr) (len cap : Nat) (l : List Ent), cs = [.slice a len cap] ∧ len ≤ maxLen ∧ Mrow w a len l := by
  rcases open_slice Tryz.underlying41 h with h0 | ⟨a, len, cap, m, n', D, Pl, hcs, hb, hl, hm, hmm, hx, hi⟩
  · exact ⟨none, 0, 0, [], h0.1, by unfold maxLen; omega, rfl, fun e he => (by cases he), .inl rfl⟩
  · have hlm : len ≤ m := by rw [hmm]; split <;> omega
    obtain ⟨l, hll, hlp⟩ := list_of (p := fun i (e : Ent) => e.Fits ∧ (∀ j, j < 11 → w.cell? (a.add (i * 12 + j)) = e.cells[j]?) ∧ ∃ q, w.cell? (a.add (i * 12 + 11)) = some (.bool q)) (n := len) (fun i hil => by
      obtain ⟨cs', hc, ht'⟩ := hi i (by omega)
      rw [c_made] at hc
      obtain ⟨e, q, fe, rfl⟩ := made_of ht'
      obtain ⟨_, _, hat⟩ := World.cells?_some hc
      have h11 : e.cells.toList.length = 11 := rfl
      refine ⟨e, fe, fun j hj => ?_, q, ?_⟩
      · have := hat j (by omega)
        rw [Go.Deep.add_add] at this
        rw [this, List.getElem?_append_left (by omega)]
        simp
      · have := hat 11 (by omega)
        rw [Go.Deep.add_add] at this
        rw [this, List.getElem?_append_right (by omega), h11]
        rfl)
    have hfit : ∀ e, e ∈ l → e.Fits := fun e he => by
      obtain ⟨i, hi', rfl⟩ := List.getElem_of_mem he
      exact (hlp i hi').1
    refine ⟨some a, len, cap, l, hcs, by omega, hll, hfit, ?_⟩
    rcases Nat.eq_zero_or_pos len with h0 | h0
    · exact .inl h0
    · have h1 := (hlp 0 (by omega)).2.1 0 (by decide)
      have h2 : (l[0]'(by omega)).cells[0]? = some (.int .u64 (l[0]'(by omega)).term) := rfl
      rw [h2] at h1
      have h3 : a.add (0 * 12 + 0) = a := rfl
      rw [h3] at h1
      obtain ⟨b, o, rfl⟩ := addr_plain h1
      refine .inr ⟨b, o, rfl, fun j hj => ⟨fun i hi' => ?_, ?_⟩⟩
      · have := (hlp j hj).2.1 i hi'
        rw [add_plain] at this
        rw [Nat.add_assoc]
        exact this
      · obtain ⟨q, hq⟩ := (hlp j hj).2.2
        rw [add_plain] at hq
        exact ⟨q, by rw [Nat.add_assoc]; exact hq⟩


end
end Go.Proofs.YtnnpjjehecbljaaGreatDoor

namespace Go.Proofs.YtnnpjjehecbljaaGreatDoor
open Go.ChangeShapes Go.WideShapes Go.RowKit Go.Deep
set_option maxRecDepth 100000

theorem made_arg {H : Type} {enc : TypeId × Value → H} {w : World} {base : Nat} {spare : Nat → Bool} {held : Bool} {r : Reach} {b0 : Nat} {v : Value} {d : DataW H} {p : List MemPlace} (hv : Value.okWide Tryz.prog w r b0 26 v) (h : DataW.Trod enc Tryz.prog w base spare held 26 v d p) :
    ∃ (e : Ent) (q : Bool), v = .agg #[.int .u64 e.term, .int .u64 e.index, .int .i64 e.kind, .int .u64 e.client, .int .u64 e.seq, .int .u64 e.block, .int .u64 e.many, .int .i64 e.node, .int .i64 e.level, .string e.data, .string e.old, .bool q] ∧ e.Fits := by
  obtain ⟨cs, rfl, hsz⟩ := okWide_struct Tryz.underlying26 hv
  obtain ⟨cs⟩ := cs
  obtain ⟨fuel, hf0⟩ := h
  have hf1 : DataW.trod enc Tryz.prog w base spare held fuel 26 cs = some (d, p) := hf0
  obtain ⟨e, q, fe, he⟩ := made_of hf1
  exact ⟨e, q, by rw [he]; rfl, fe⟩
end Go.Proofs.YtnnpjjehecbljaaGreatDoor

namespace Go.Proofs.YtnnpjjehecbljaaGreatDoor
open Go.ChangeShapes Go.WideShapes Go.RowKit Go.Deep
set_option maxRecDepth 100000

theorem mades_arg {H : Type} {enc : TypeId × Value → H} {w : World} {base : Nat} {spare : Nat → Bool} {held : Bool} {r : Reach} {b0 : Nat} {v : Value} {d : DataW H} {p : List MemPlace} (hv : Value.okWide Tryz.prog w r b0 41 v) (h : DataW.Trod enc Tryz.prog w base spare held 41 v d p) :
    ∃ (la : Option Addr) (ln lc : Nat) (l : List Ent), v = .slice la ln lc ∧ ln ≤ maxLen ∧ Mrow w la ln l := by
  obtain ⟨a, len, cap, rfl⟩ := okWide_slice Tryz.underlying41 hv
  obtain ⟨fuel, hf0⟩ := h
  have hf1 : DataW.trod enc Tryz.prog w base spare held fuel 41 [.slice a len cap] = some (d, p) := hf0
  obtain ⟨a', len', cap', l, he, hl, hm⟩ := mades_of hf1
  obtain ⟨rfl, rfl, rfl⟩ : a = a' ∧ len = len' ∧ cap = cap' := by simpa using he
  exact ⟨a, len, cap, l, rfl, hl, hm⟩
end Go.Proofs.YtnnpjjehecbljaaGreatDoor
