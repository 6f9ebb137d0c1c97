/-
  Texts of this seat, joined: RRt8 RRight RMrB RMr1.
-/
import Derived.Test.YthfaaoeecajkeaaDoorW18
import Derived.Test.YthfaaoeecajkeaaDoorW19
import Derived.Test.YthfaaoeecajkeaaDoorW20
import Derived.Test.YthfaaoeecajkeaaDoorW17
set_option linter.unusedSimpArgs false
set_option linter.unusedVariables false
namespace Go.Proofs.YthfaaoeecajkeaaDoor
open Go.RowKit

set_option maxRecDepth 100000 in
set_option maxHeartbeats 8000000 in
theorem rRight_cbdo (e : Ent) (may : ByteArray) (w : World) (he : e.Fits) (hkind : entMay e.kind = (may, true)) (hs : may.size ≤ maxLen) (hc : hasI may 99 = true) (hb : hasI may 98 = true) (hm : hasI may 109 = false) (hd : hasI may 100 = true) (ho : hasI may 111 = true) (hn : hasI may 110 = false) (hl : hasI may 108 = false) :
    Calls Tryd.prog 32 #[.agg e.cells] w fun r w' => r = .returned (.bool (okR true true false true true false false e)) ∧ Fr [] w w' := by
  obtain ⟨hT, hI, hC, hS, hB, hM, hD, hO⟩ := he
  unfold U64 maxLen at *
  have HF := Lib.hid (rFields e.kind)
  rw [hkind] at HF
  clear hkind
  have HH := Lib.hid (fun c w => rHas may c w hs)
  unfold Ent.cells
  go_enter Tryd.func32, Tryd.ntmps32
  go_wp2_with fail
  refine (HF.out _).mono ?_
  rintro r w2 ⟨rfl, g2⟩
  have SB := Lib.hid ((Blk.new w #[.int .u64 e.term, .int .u64 e.index, .int .i64 e.kind, .int .u64 e.client, .int .u64 e.seq, .int .u64 e.block, .int .u64 e.many, .int .i64 e.node, .int .i64 e.level, .string e.data, .string e.old] 24).fr0 g2)
  have HF0 : Hid (Fr [] w w2) := ((Fr.refl _ _).alloc _).trans0 g2
  generalize w.heap.size = bx at *
  clear g2 HF
  have f0 := SB.out.cellAt (i := 0) rfl
  have f1 := SB.out.cellAt (i := 1) rfl
  have f3 := SB.out.cellAt (i := 3) rfl
  have f4 := SB.out.cellAt (i := 4) rfl
  have f5 := SB.out.cellAt (i := 5) rfl
  have f6 := SB.out.cellAt (i := 6) rfl
  have f7 := SB.out.cellAt (i := 7) rfl
  have f8 := SB.out.cellAt (i := 8) rfl
  have f9 := SB.out.cellAt (i := 9) rfl
  have f10 := SB.out.cellAt (i := 10) rfl
  go_wp2_with fail
  all_goals first
    | (go_ret; refine ⟨?_, HF0.out⟩; refine ret_bool ?_; clear SB HF0 HH; symm; unfold okR; simp; omega)
    | skip
  by_cases hcl : 0 < e.client
  all_goals
    have hx1 : (true != decide (0 < e.client)) = !decide (0 < e.client) := by simp
    have hx2 : (false != decide (0 < e.client)) = decide (0 < e.client) := by simp
  · have hy1 : decide (0 < e.client) = true := by simp [hcl]
    rw [hy1] at hx1 hx2
    have HCL := Lib.hid hcl
    clear hcl
    go_quiet ((go_at_call 60; exact Calls.quiet_of_same ((HH.out _ _).mono fun _ _ h => ⟨h.1, h.2.symm⟩)))
    go_wp2_with (go_at_call 60; refine (HH.out _ _).mono ?_; rintro r w' ⟨rfl, rfl⟩)
    all_goals go_ret
    all_goals refine ⟨?_, by first | exact HF0.out | exact HF0.out.drew | exact HF0.out.drewN _⟩
    all_goals refine ret_bool ?_
    all_goals have hcl := HCL.out
    all_goals clear SB HF0 HH HCL hx1 hx2
    all_goals symm
    all_goals unfold okR
    all_goals clear f0 f1 f3 f4 f5 f6 f7 f8 f9 f10 hs hc hb hm hd ho hn hl
    all_goals first | (simp [*]; done) | (simp; omega) | (simp [*]; omega) | grind | (rw [Bool.eq_iff_iff]; simp [List.isEmpty_iff] at *; grind) | skip
  · have hy1 : decide (0 < e.client) = false := by simpa using hcl
    rw [hy1] at hx1 hx2
    have HCL := Lib.hid hcl
    clear hcl
    go_quiet ((go_at_call 60; exact Calls.quiet_of_same ((HH.out _ _).mono fun _ _ h => ⟨h.1, h.2.symm⟩)))
    go_wp2_with (go_at_call 60; refine (HH.out _ _).mono ?_; rintro r w' ⟨rfl, rfl⟩)
    all_goals go_ret
    all_goals refine ⟨?_, by first | exact HF0.out | exact HF0.out.drew | exact HF0.out.drewN _⟩
    all_goals refine ret_bool ?_
    all_goals have hcl := HCL.out
    all_goals clear SB HF0 HH HCL hx1 hx2
    all_goals symm
    all_goals unfold okR
    all_goals clear f0 f1 f3 f4 f5 f6 f7 f8 f9 f10 hs hc hb hm hd ho hn hl
    all_goals first | (simp [*]; done) | (simp; omega) | (simp [*]; omega) | grind | (rw [Bool.eq_iff_iff]; simp [List.isEmpty_iff] at *; grind) | skip
end Go.Proofs.YthfaaoeecajkeaaDoor

namespace Go.Proofs.YthfaaoeecajkeaaDoor
open Go.RowKit

set_option maxRecDepth 100000 in
set_option maxHeartbeats 4000000 in
theorem rRight_bad (e : Ent) (w : World) (hkind : (entMay e.kind).2 = false) : Calls Tryd.prog 32 #[.agg e.cells] w fun r w' => r = .returned (.bool false) ∧ Fr [] w w' := by
  have HF := Lib.hid (rFields e.kind)
  rw [hkind] at HF
  clear hkind
  generalize (entMay e.kind).1 = may at *
  unfold Ent.cells
  go_enter Tryd.func32, Tryd.ntmps32
  go_wp2_with fail
  refine (HF.out _).mono ?_
  rintro r w2 ⟨rfl, g2⟩
  have HF0 : Hid (Fr [] w w2) := ((Fr.refl _ _).alloc _).trans0 g2
  clear g2
  go_wp2_with fail
  go_ret
  exact ⟨rfl, HF0.out⟩

/-- The program's own answer, by what is in a kind's letters. -/
def okP (bc bb bm bd bo bn bl : Bool) (e : Ent) : Bool :=
  decide (0 < e.term) && decide (0 < e.index) && (if bc then decide (0 < e.client) else !(decide (0 < e.client) || decide (0 < e.seq))) && (if bb then smallB e.block else !decide (0 < e.block)) && (if bm then smallB e.many else !decide (0 < e.many)) &&
  (if bn then nodeB e.node else !(e.node != 0)) && (if bl then e.level == 1 || e.level == 2 else !(e.level != 0)) && (if bd then decide ((e.data.size : Int) ≤ 64) else e.data.toList.isEmpty) && (if bo then decide ((e.old.size : Int) ≤ 64) else e.old.toList.isEmpty)

theorem small_le {n : Int} (h : 0 ≤ n) : smallB n = !decide (4294967296 ≤ n) := by
  unfold smallB
  rw [Bool.eq_iff_iff]; simp; omega

theorem empty_short {s : ByteArray} (h : s.toList.isEmpty = true) : decide ((s.size : Int) ≤ 64) = true := by
  rw [List.isEmpty_iff, Lib.toList_data] at h
  have : s.size = 0 := by rw [Lib.size_eq, h]; rfl
  simp [this]

theorem okRP (bc bb bm bd bo bn bl : Bool) (e : Ent) (he : e.Fits) : okR bc bb bm bd bo bn bl e = okP bc bb bm bd bo bn bl e := by
  have hb := small_le he.block.1
  have hm := small_le he.many.1
  have hb0 := he.block.1
  have hm0 := he.many.1
  have ht : decide (e.term < 1) = !decide (0 < e.term) := by rw [Bool.eq_iff_iff]; simp; omega
  have hi : decide (e.index < 1) = !decide (0 < e.index) := by rw [Bool.eq_iff_iff]; simp; omega
  have hd : decide ((64 : Int) < e.data.size) = !decide ((e.data.size : Int) ≤ 64) := by rw [Bool.eq_iff_iff]; simp
  have ho : decide ((64 : Int) < e.old.size) = !decide ((e.old.size : Int) ≤ 64) := by rw [Bool.eq_iff_iff]; simp
  have hde : e.data.toList.isEmpty = true → decide ((e.data.size : Int) ≤ 64) = true := fun h => by
    exact empty_short h
  have hoe : e.old.toList.isEmpty = true → decide ((e.old.size : Int) ≤ 64) = true := fun h => by
    exact empty_short h
  have hbs : decide (0 < e.block) = false → decide (4294967296 ≤ e.block) = false := by simp; omega
  have hms : decide (0 < e.many) = false → decide (4294967296 ≤ e.many) = false := by simp; omega
  unfold okR okP nodeB
  rw [hb, hm, ht, hi, hd, ho]
  have hnz : (e.node != 0) = !(e.node == 0) := rfl
  have hlz : (e.level != 0) = !(e.level == 0) := rfl
  rw [hnz, hlz]
  clear hb hm ht hi hd ho hnz hlz
  generalize decide (0 < e.term) = a1 at *
  generalize decide (0 < e.index) = a2 at *
  generalize decide ((e.data.size : Int) ≤ 64) = a3 at *
  generalize decide ((e.old.size : Int) ≤ 64) = a4 at *
  generalize decide (4294967296 ≤ e.block) = a5 at *
  generalize decide (4294967296 ≤ e.many) = a6 at *
  generalize decide (0 < e.client) = a7 at *
  generalize decide (0 < e.seq) = a8 at *
  generalize decide (0 < e.block) = a9 at *
  generalize decide (0 < e.many) = b1 at *
  generalize e.data.toList.isEmpty = b2 at *
  generalize e.old.toList.isEmpty = b3 at *
  generalize (decide (1 ≤ e.node) && decide (e.node ≤ 7)) = b4 at *
  generalize (e.node == 0) = b5 at *
  generalize (e.level == 1 || e.level == 2) = b6 at *
  generalize (e.level == 0) = b7 at *
  cases a1 <;> cases a2 <;> cases a3 <;> cases a4 <;> cases a5 <;> cases a6 <;> simp_all <;> (cases bc <;> cases a7 <;> simp_all) <;> (cases bb <;> cases bm <;> cases bd <;> cases bo <;> simp_all) <;> (cases bn <;> cases bl <;> simp_all) <;> grind

def mayOf (k : Int) : ByteArray := (entMay k).1

/-- What is in a kind's letters, for the program's own text. -/
theorem ok_class {e : Ent} {may : ByteArray} {bc bb bm bd bo bn bl : Bool} (hk : entMay e.kind = (may, true)) (hc : hasB may 99 = bc) (hb : hasB may 98 = bb) (hm : hasB may 109 = bm) (hn : hasB may 110 = bn) (hl : hasB may 108 = bl) (hd : hasB may 100 = bd) (ho : hasB may 111 = bo) :
    e.ok = okP bc bb bm bd bo bn bl e := by
  unfold Ent.ok fitB Ent.flds okP
  rw [hk]
  simp only [List.any_cons, List.any_nil, Fld.bad, hc, hb, hm, hn, hl, hd, ho]
  generalize e.data.toList.isEmpty = x1
  generalize e.old.toList.isEmpty = x2
  generalize decide (0 < e.client) = x3
  generalize decide (0 < e.seq) = x4
  generalize decide (0 < e.block) = x5
  generalize decide (0 < e.many) = x6
  generalize smallB e.block = x7
  generalize smallB e.many = x8
  generalize nodeB e.node = x9
  generalize (e.node != 0) = y1
  generalize (e.level != 0) = y2
  generalize (e.level == 1 || e.level == 2) = y3
  generalize decide ((e.data.size : Int) ≤ 64) = y4
  generalize decide ((e.old.size : Int) ≤ 64) = y5
  generalize decide (0 < e.term) = y6
  generalize decide (0 < e.index) = y7
  cases bc <;> cases bb <;> cases bm <;> cases bd <;> cases bo <;> cases bn <;> cases bl <;> simp [Bool.and_assoc, Bool.and_comm, Bool.and_left_comm]

theorem rRight (e : Ent) (w : World) (he : e.Fits) : Calls Tryd.prog 32 #[.agg e.cells] w fun r w' => r = .returned (.bool e.ok) ∧ Fr [] w w' := by
  by_cases h : 0 ≤ e.kind ∧ e.kind ≤ 11
  · have : e.kind = 0 ∨ e.kind = 1 ∨ e.kind = 2 ∨ e.kind = 3 ∨ e.kind = 4 ∨ e.kind = 5 ∨ e.kind = 6 ∨ e.kind = 7 ∨ e.kind = 8 ∨ e.kind = 9 ∨ e.kind = 10 ∨ e.kind = 11 := by omega
    rcases this with hk | hk | hk | hk | hk | hk | hk | hk | hk | hk | hk | hk
    all_goals
      first
        | (have hm : entMay e.kind = (⟨#[]⟩, true) := by (rw [hk]; rfl)
           rw [ok_class hm rfl rfl rfl rfl rfl rfl rfl, ← okRP _ _ _ _ _ _ _ e he]; exact rRight_none e _ w he hm (by decide) rfl rfl rfl rfl rfl rfl rfl)
        | (have hm : entMay e.kind = (⟨#[99, 98, 100]⟩, true) := by (rw [hk]; rfl)
           rw [ok_class hm rfl rfl rfl rfl rfl rfl rfl, ← okRP _ _ _ _ _ _ _ e he]; exact rRight_cbd e _ w he hm (by decide) rfl rfl rfl rfl rfl rfl rfl)
        | (have hm : entMay e.kind = (⟨#[99, 98, 109]⟩, true) := by (rw [hk]; rfl)
           rw [ok_class hm rfl rfl rfl rfl rfl rfl rfl, ← okRP _ _ _ _ _ _ _ e he]; exact rRight_cbm e _ w he hm (by decide) rfl rfl rfl rfl rfl rfl rfl)
        | (have hm : entMay e.kind = (⟨#[99, 109]⟩, true) := by (rw [hk]; rfl)
           rw [ok_class hm rfl rfl rfl rfl rfl rfl rfl, ← okRP _ _ _ _ _ _ _ e he]; exact rRight_cm e _ w he hm (by decide) rfl rfl rfl rfl rfl rfl rfl)
        | (have hm : entMay e.kind = (⟨#[99]⟩, true) := by (rw [hk]; rfl)
           rw [ok_class hm rfl rfl rfl rfl rfl rfl rfl, ← okRP _ _ _ _ _ _ _ e he]; exact rRight_c e _ w he hm (by decide) rfl rfl rfl rfl rfl rfl rfl)
        | (have hm : entMay e.kind = (⟨#[110]⟩, true) := by (rw [hk]; rfl)
           rw [ok_class hm rfl rfl rfl rfl rfl rfl rfl, ← okRP _ _ _ _ _ _ _ e he]; exact rRight_n e _ w he hm (by decide) rfl rfl rfl rfl rfl rfl rfl)
        | (have hm : entMay e.kind = (⟨#[110, 108]⟩, true) := by (rw [hk]; rfl)
           rw [ok_class hm rfl rfl rfl rfl rfl rfl rfl, ← okRP _ _ _ _ _ _ _ e he]; exact rRight_nl e _ w he hm (by decide) rfl rfl rfl rfl rfl rfl rfl)
        | (have hm : entMay e.kind = (⟨#[99, 98, 100, 111]⟩, true) := by (rw [hk]; rfl)
           rw [ok_class hm rfl rfl rfl rfl rfl rfl rfl, ← okRP _ _ _ _ _ _ _ e he]; exact rRight_cbdo e _ w he hm (by decide) rfl rfl rfl rfl rfl rfl rfl)
  · have hn : (entMay e.kind).2 = false := by
      unfold entMay
      repeat rw [if_neg (by omega)]
    have : e.ok = false := by unfold Ent.ok; rw [hn]; rfl
    rw [this]
    exact rRight_bad e w hn
end Go.Proofs.YthfaaoeecajkeaaDoor

namespace Go.Proofs.YthfaaoeecajkeaaDoor
open Go.RowKit

/-- The chapter's own answer, by what is in a kind's letters. -/
def okMR (bi bp bt bk by' be bs : Bool) (n : Nat) (bad : Bool) (m : Msg) : Bool :=
  !(decide (m.sent < 1) || decide (7 < m.sent) || decide (m.goal < 1) || decide (7 < m.goal) || decide (64 < n) || decide ((16384 : Int) < m.snap.size)) && !bad &&
  (bi || !decide (0 < m.index)) && (bp || !decide (0 < m.prev)) && (bt || !decide (0 < m.commit)) && (bk || !decide (0 < m.mark)) && (by' || !m.yes) && (be || n == 0) && (bs || m.snap.toList.isEmpty)

theorem msgC {w : World} {bx : Nat} {m : Msg} {v : Value} {t : TypeId} (h : Blk w bx (m.cells v) t) :
    w.cell? ⟨bx, 1, none⟩ = some (.int .i64 m.sent) ∧ w.cell? ⟨bx, 2, none⟩ = some (.int .i64 m.goal) ∧ w.cell? ⟨bx, 4, none⟩ = some (.int .u64 m.index) ∧ w.cell? ⟨bx, 5, none⟩ = some (.int .u64 m.prev) ∧ w.cell? ⟨bx, 6, none⟩ = some (.int .u64 m.commit) ∧ w.cell? ⟨bx, 7, none⟩ = some (.int .u64 m.mark) ∧ w.cell? ⟨bx, 8, none⟩ = some (.bool m.yes) ∧ w.cell? ⟨bx, 9, none⟩ = some v ∧ w.cell? ⟨bx, 10, none⟩ = some (.string m.snap) := msgS h
end Go.Proofs.YthfaaoeecajkeaaDoor

namespace Go.Proofs.YthfaaoeecajkeaaDoor
open Go.RowKit

set_option maxRecDepth 100000 in
set_option maxHeartbeats 8000000 in
theorem rMsgRight_ip (m : Msg) (v : Value) (may : ByteArray) (w : World) (hf : m.Fits) (hv : Ents w v m.ents) (hkind : msgMay m.kind = (may, true)) (hs : may.size ≤ maxLen) (qi : hasI may 105 = true) (qp : hasI may 112 = true) (qt : hasI may 116 = false) (qk : hasI may 107 = false) (qy : hasI may 121 = false) (qe : hasI may 101 = false) (qs : hasI may 115 = false) :
    Calls Tryd.prog 45 #[.agg (m.cells v)] w fun r w' => r = .returned (.bool (okMR true true false false false false false m.ents.length (m.ents.any (fun e => !e.ok)) m)) ∧ Fr [] w w' := by
  obtain ⟨ad, cp, rfl⟩ := hv.shape
  have hmany := hf.many
  have hfe := Lib.hid hf.ents
  obtain ⟨hT, hI, hP, hC, hK, _, _, hS⟩ := hf
  unfold U64 maxLen at *
  have HF := Lib.hid (rMsgFields m.kind)
  rw [hkind] at HF
  clear hkind
  have HH := Lib.hid (fun c w => rHas may c w hs)
  have HBm := fun w2 (f : Fr [] (w.alloc (.cells (m.cells (.slice ad m.ents.length cp)) 47)) w2) => (Blk.new w (m.cells (.slice ad m.ents.length cp)) 47).fr0 f
  have HM := Lib.hid HBm
  have HV := Lib.hid (hv.fr0 ((Fr.refl [] w).alloc (.cells (m.cells (.slice ad m.ents.length cp)) 47)))
  have HF0 : Hid (Fr [] w (w.alloc (.cells (m.cells (.slice ad m.ents.length cp)) 47))) := (Fr.refl _ _).alloc _
  have HC := Lib.hid (fun w2 f => msgC (HBm w2 f))
  clear HBm hv HM
  unfold Msg.cells at *
  generalize hn : m.ents.length = n at *
  have HNn := Lib.hid hn
  clear hn
  go_enter Tryd.func45, Tryd.ntmps45
  go_wp2_with fail
  refine (HF.out _).mono ?_
  rintro r w2 ⟨rfl, g2⟩
  obtain ⟨c1, c2, c4, c5, c6, c7, c8, c9, c10⟩ := HC.out _ g2
  have HC2 := Lib.hid (fun w3 (f : Fr [] w2 w3) => HC.out w3 (g2.trans0 f))
  have HV2 := Lib.hid (HV.out.fr0 g2)
  have HF2 : Hid (Fr [] w w2) := HF0.out.trans0 g2
  clear HC HV HF0 g2 HF
  generalize w.heap.size = bx at *
  go_wp2_with fail
  all_goals first
    | (go_ret; refine ⟨?_, HF2.out⟩; refine ret_bool ?_; clear HC2 HV2 HF2 HH hfe HNn; symm; unfold okMR; simp; omega)
    | skip
  clear c1 c2 c4 c5 c6 c7 c8 c9 c10
  go_loopw [5] (fun i wr => ∃ k : Nat, k ≤ n ∧ i = .int .i64 k ∧ Hid (m.ents.any (fun e => !e.ok) = (m.ents.drop k).any (fun e => !e.ok)) ∧ Hid (Fr [] w2 wr)) (fun i _ => n - (intOf i).toNat)
  case atStart => exact ⟨0, by omega, rfl, rfl, Fr.refl _ _⟩
  case round =>
    obtain ⟨k, hk, rfl, HI, HR⟩ := hrel
    obtain ⟨c1, c2, c4, c5, c6, c7, c8, c9, c10⟩ := HC2.out _ HR.out
    by_cases hlt : k < n
    · obtain ⟨b, o, had⟩ : ∃ b o, ad = some ⟨b, o, none⟩ := by
        rcases HV2.out with ⟨h1, _⟩ | ⟨b, o, c, h1, _⟩
        · have := HNn.out; rw [h1] at this; simp at this; omega
        · injection h1 with h1; exact ⟨b, o, h1⟩
      subst had
      have hlk : k < m.ents.length := by have := HNn.out; omega
      have hrow := (HV2.out.fr0 HR.out).row HNn.out (by omega)
      obtain ⟨e, he⟩ : ∃ e, m.ents[k] = e := ⟨_, rfl⟩
      obtain ⟨d0, d1, d2, d3, d4, d5, d6, d7, d8, d9, d10⟩ := entCells hrow.2 hlk he
      have HS := Lib.hid (any_step (p := fun e => !e.ok) hlk)
      rw [he] at HS
      have HL := Lib.hid (fun w => rRight e w (hfe.out e (by rw [← he]; exact List.getElem_mem _)))
      unfold Ent.cells at HL
      clear he hrow hlk
      by_cases h2 : e.ok = true
      · have HT : Hid (m.ents.any (fun e => !e.ok) = (m.ents.drop (k + 1)).any (fun e => !e.ok)) := by rw [HI.out, HS.out, h2]; rfl
        rw [h2] at HL
        clear h2
        go_wp2_with (go_at_call 32; refine (HL.out _).mono ?_; rintro r w3 ⟨rfl, f3⟩)
        go_roundw
        case rel => exact ⟨k + 1, by omega, by go_num, HT, HR.out.trans0 f3⟩
        case measure => simp [intOf]; omega
      · have h2b : e.ok = false := by simpa using h2
        have HT : Hid (m.ents.any (fun e => !e.ok) = true) := by rw [HI.out, HS.out, h2b]; rfl
        rw [h2b] at HL
        clear h2 h2b
        go_wp2_with (go_at_call 32; refine (HL.out _).mono ?_; rintro r w3 ⟨rfl, f3⟩)
        go_ret
        refine ⟨ret_bool ?_, (HF2.out.trans0 HR.out).trans0 f3⟩
        rw [HT.out]
        unfold okMR
        simp
    · have HE : Hid (m.ents.any (fun e => !e.ok) = false) := by
        rw [HI.out, List.drop_of_length_le (by rw [HNn.out]; omega)]; rfl
      go_wp2_with (go_at_call 60; refine (HH.out _ _).mono ?_; rintro r w' ⟨rfl, rfl⟩)
      all_goals go_ret
      all_goals refine ⟨ret_bool ?_, HF2.out.trans0 HR.out⟩
      all_goals rw [HE.out]
      all_goals clear HC2 HV2 HF2 HH hfe HNn HE HI HR
      all_goals clear c1 c2 c4 c5 c6 c7 c8 c9 c10 hs qi qp qt qk qy qe qs
      all_goals symm
      all_goals unfold okMR
      all_goals first | (simp [*]; done) | (simp; omega) | (simp [*]; omega) | grind | (rw [Bool.eq_iff_iff]; simp [List.isEmpty_iff] at *; grind)
end Go.Proofs.YthfaaoeecajkeaaDoor
