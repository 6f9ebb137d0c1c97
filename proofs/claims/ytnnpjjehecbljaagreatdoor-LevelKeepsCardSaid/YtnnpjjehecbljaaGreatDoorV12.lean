/-
  Texts of this seat, joined: FRi LAppl LNew LNil FApp Sapp LSome FPlain LCode LText.
-/
import Derived.Test.YtnnpjjehecbljaaGreatDoorV05
import Derived.Test.YtnnpjjehecbljaaGreatDoorV06
import Derived.Test.YtnnpjjehecbljaaGreatDoorV07
import Derived.Test.YtnnpjjehecbljaaGreatDoorV08
import Derived.Test.YtnnpjjehecbljaaGreatDoorV09
import Derived.Test.YtnnpjjehecbljaaGreatDoorV10
import Derived.Test.YtnnpjjehecbljaaGreatDoorV11
import Derived.Test.YtnnpjjehecbljaaGreatDoorV04
import Derived.Test.YtnnpjjehecbljaaGreatDoorV03
import Derived.Test.YtnnpjjehecbljaaGreatDoorV00
import Derived.Deep.RegionLawGrows
import Derived.Laws.Bits64b
set_option linter.unusedSimpArgs false
set_option linter.unusedVariables false
namespace Go.Proofs.YtnnpjjehecbljaaGreatDoor
open Go.RowKit

theorem eRight (e : Ent) (w : World) (he : e.Fits) : Calls Tryz.prog 24 #[.agg e.cells] w fun r w' => r = .returned (.bool e.ok) ∧ Fr [] w w' := by
  cases hok : (entMay e.kind).2 with
  | false => exact eRight5 e w he hok
  | true =>
    by_cases h2 : 0 < e.term
    · by_cases h3 : 0 < e.index
      · by_cases hc : 0 < e.client
        · by_cases hl : e.level = 1
          · exact eRight1 e w he hok h2 h3 hc hl
          · exact eRight2 e w he hok h2 h3 hc hl
        · by_cases hl : e.level = 1
          · exact eRight3 e w he hok h2 h3 hc hl
          · exact eRight4 e w he hok h2 h3 hc hl
      · exact eRight7 e w he hok h2 h3
    · exact eRight6 e w he hok h2
end Go.Proofs.YtnnpjjehecbljaaGreatDoor

namespace Go.Proofs.YtnnpjjehecbljaaGreatDoor
open Go.RowKit

/-- A config of its own, behind a pointer, as chunks. -/
theorem LM.sat {B dx : Nat} {w : World} {c : Cfg} (h : LM B w dx c) : ∃ gm cm gh ch, Sat [dx, gm, gh] w (cfH dx gm cm gh ch c) w ∧ B ≤ dx ∧ B ≤ gm ∧ B ≤ gh := by
  obtain ⟨gm, cm, gh, ch, hB, hM, hG, hne, b1, b2, n1, n2, b3⟩ := h
  refine ⟨gm, cm, gh, ch, ?_, b3, b1, b2⟩
  refine Sat.start (H := cfH dx gm cm gh ch c) ?_ ?_
  · simp [cfH]; omega
  · intro d hd
    simp only [cfH, List.mem_cons, List.not_mem_nil, or_false] at hd
    rcases hd with rfl | rfl | rfl
    · exact Ck.cel_in.2 hB
    · exact Iv.ck.1 hM
    · exact Iv.ck.1 hG
theorem LM.of_sat {F : List Nat} {B dx gm cm gh ch : Nat} {w w' : World} {c : Cfg} (h : Sat F w (cfH dx gm cm gh ch c) w') (hF : ∀ x, x ∈ F → B ≤ x) (hB : B ≤ w.heap.size) : LM B w' dx c := by
  have nd := h.nd
  simp [cfH] at nd
  have ho : ∀ d, d ∈ cfH dx gm cm gh ch c → B ≤ d.1 := fun d hd => by
    rcases h.own d hd with h1 | h1
    · exact hF _ h1
    · omega
  have o1 := ho _ (List.mem_of_getElem? (at0 (L := _)))
  have o2 := ho _ (List.mem_of_getElem? (at1 (L := _)))
  have o3 := ho _ (List.mem_of_getElem? (at2 (L := _)))
  exact ⟨gm, cm, gh, ch, Ck.cel_in.1 (h.mem 0 rfl), Iv.ck.2 (h.mem 1 rfl), Iv.ck.2 (h.mem 2 rfl), by omega, o2, o3, by omega, by omega, o1⟩
theorem lAddT (B dx : Nat) (c : Cfg) (e : Ent) (w : World) (h : LM B w dx c) (hs : c.M.Pairwise (· ≤ ·)) (hlen : c.G.length = c.M.length) (h4 : c.M.length ≤ 4096) :
    Calls Tryz.prog 26 #[.pointer (some ⟨dx, 0, none⟩), .agg e.cells] w fun r w' => Told B dx w (addOf c e.node) r w' := by
  have hBw : B ≤ w.heap.size := by obtain ⟨_, _, _, _, hB, _, _, _, _, _, _, _, b⟩ := h; have := hB.lt; omega
  obtain ⟨gm, cm, gh, ch, hS, b1, b2, b3⟩ := h.sat
  have hF : ∀ x, x ∈ [dx, gm, gh] → B ≤ x := by intro x hx; simp at hx; omega
  refine (lAdd dx gm cm gh ch c e w hS hs hlen h4).mono ?_
  rintro r w' ⟨gm', cm', gh', ch', rfl, h1⟩
  exact ⟨rfl, fun _ => LM.of_sat h1 hF hBw, h1.fr.toBelow hBw hF⟩

/-- clone, as chunks. -/
theorem cClone (gm cm gh ch : Nat) (c : Cfg) (w : World) (h : Cf w gm cm gh ch c) (hok : c.ok = true) :
    Calls Tryz.prog 25 #[.agg (cfC gm cm gh ch c)] w fun e w' => ∃ x : Nat × Nat × Nat × Nat, e = .returned (.agg (cfC x.1 x.2.1 x.2.2.1 x.2.2.2 c)) ∧ Sat [] w [(x.1, ivCh 3 x.2.1 c.M), (x.2.2.1, ivCh 3 x.2.2.2 c.G)] w' := by
  obtain ⟨h1, h2, h3, h4, h5, h6, h7⟩ := (Cfg.ok_iff c).1 hok
  refine (lClone gm cm gh ch c w h (by omega) (by omega)).mono ?_
  rintro e w' ⟨gm', cm', gh', ch', rfl, h1, h2, h3, h4⟩
  refine ⟨(gm', cm', gh', ch'), rfl, h4, ?_, ?_, ?_⟩
  · have := h1.2.2; simp; exact this
  · intro d hd
    simp only [List.mem_cons, List.not_mem_nil, or_false] at hd
    rcases hd with rfl | rfl
    · exact Iv.ck.1 h1.1
    · exact Iv.ck.1 h1.2.1
  · intro d hd
    simp only [List.mem_cons, List.not_mem_nil, or_false] at hd
    rcases hd with rfl | rfl
    · exact .inr h2
    · exact .inr h3

/-- What Apply answers. -/
def AppPost (w : World) (a : Cfg × Int) (r : Ending) (w' : World) : Prop :=
  ∃ gm cm gh ch, r = .returned (.tuple #[.agg (cfC gm cm gh ch a.1), .int .i64 a.2]) ∧ Cf w' gm cm gh ch a.1 ∧ w.heap.size ≤ gm ∧ w.heap.size ≤ gh ∧ Fr [] w w'
theorem AppPost.of {w w' : World} {gm cm gh ch : Nat} {a : Cfg × Int} {H : List Ck} (h : Sat [] w ((gm, ivCh 3 cm a.1.M) :: (gh, ivCh 3 ch a.1.G) :: H) w') : AppPost w a (.returned (.tuple #[.agg (cfC gm cm gh ch a.1), .int .i64 a.2])) w' := by
  have o1 := (h.own _ (List.mem_of_getElem? (at0 (L := _)))).resolve_left (by simp)
  have o2 := (h.own _ (List.mem_of_getElem? (at1 (L := _)))).resolve_left (by simp)
  exact ⟨gm, cm, gh, ch, rfl, ⟨Iv.ck.2 (h.mem 0 rfl), Iv.ck.2 (h.mem 1 rfl), h.ne 0 1 rfl rfl (by decide)⟩, o1, o2, h.fr⟩


/-- What changes a config, by the kind. -/
def doesL : List (Int × Value) := [(5, .func (.func 26) #[] #[]), (6, .func (.func 27) #[] #[]), (7, .func (.func 28) #[] #[]), (8, .func (.func 29) #[] #[]), (9, .func (.func 30) #[] #[]), (10, .func (.func 31) #[] #[])]
theorem doZero (w : World) : (zeroValue 61).run Tryz.prog w = .ok .nilFunc w := Tryz.zeroValue61 w
set_option maxHeartbeats 4000000 in
set_option maxRecDepth 100000 in
/-- An entry that may not be. -/
theorem lApplyArg (gm cm gh ch : Nat) (c : Cfg) (e : Ent) (w : World) (h : Cf w gm cm gh ch c) (hok : c.ok = true) (he : e.Fits) (heok : e.ok = false) :
    Calls Tryz.prog 11 #[.agg (cfC gm cm gh ch c), .agg e.cells] w fun r w' => AppPost w (c, 1) r w' := by
  have HR := Lib.hid (fun (w1 : World) (f : Fr [] w w1) => lRight gm cm gh ch c w1 (h.fr f (by simp) (by simp)) hok)
  have HC := Lib.hid (fun (w1 : World) (f : Fr [] w w1) => cClone gm cm gh ch c w1 (h.fr f (by simp) (by simp)) hok)
  have HE := Lib.hid (fun (w1 : World) => eRight e w1 he)
  have HL := Lib.hid h
  clear h
  rw [heok] at HE
  unfold Ent.cells cfC ivV at *
  generalize hn : c.M.length = n at *
  generalize hk : c.G.length = k at *
  have HN := Lib.hid (And.intro hn hk)
  clear hn hk
  obtain ⟨cx, hcx⟩ : ∃ cx, w.heap.size = cx := ⟨_, rfl⟩
  have hS := (((Sat.refl [] w).new cx hcx #[.slice (some ⟨gm, 0, none⟩) n cm, .slice (some ⟨gh, 0, none⟩) k ch, .int .i64 c.lvl, .bool c.fin] 30).new (cx + 1) (by simp [hcx]) #[.int .u64 e.term, .int .u64 e.index, .int .i64 e.kind, .int .u64 e.client, .int .u64 e.seq, .int .u64 e.block, .int .u64 e.many, .int .i64 e.node, .int .i64 e.level, .string e.data, .string e.old] 24).new (cx + 2) (by simp [hcx]) #[.slice none 0 0, .slice none 0 0, .int .i64 0, .bool false] 30
  go_enter Tryz.func11, Tryz.ntmps11
  go_upto_region 1 with fail
  generalize ((w.alloc (.cells #[.slice (some ⟨gm, 0, none⟩) n cm, .slice (some ⟨gh, 0, none⟩) k ch, .int .i64 c.lvl, .bool c.fin] 30)).alloc (.cells #[.int .u64 e.term, .int .u64 e.index, .int .i64 e.kind, .int .u64 e.client, .int .u64 e.seq, .int .u64 e.block, .int .u64 e.many, .int .i64 e.node, .int .i64 e.level, .string e.data, .string e.old] 24)).alloc (.cells #[.slice none 0 0, .slice none 0 0, .int .i64 0, .bool false] 30) = w3 at *
  have HX := Lib.hid hcx
  clear hcx
  have fs := hS.says
  simp only [says, Ck.say] at fs
  go_wp2_with (first
    | (go_at_call 12; refine Sat.callF hS (HR.out _ hS.fr) (fun w4 hS => ?_); clear fs; have fs := hS.says; simp only [says, Ck.say] at fs)
    | (go_at_call 24; refine Sat.callF hS (HE.out _) (fun w5 hS => ?_); clear fs; have fs := hS.says; simp only [says, Ck.say] at fs)
    | (go_at_call 25; refine Sat.call0 hS (HC.out _ hS.fr) (fun ⟨g1, c1, g2, c2⟩ w6 hS => ?_); clear fs; simp only [List.cons_append, List.nil_append] at hS; have fs := hS.says; simp only [says, Ck.say] at fs))
  refine bodyPost_ret (v := .tuple #[.agg #[.slice (some ⟨g1, 0, none⟩) n c1, .slice (some ⟨g2, 0, none⟩) k c2, .int .i64 c.lvl, .bool c.fin], .int .i64 1]) (by simp [results, Tryz.results11, go_sem, fs]) rfl ?_
  obtain ⟨rfl, rfl⟩ := HN.out
  exact AppPost.of (a := (c, 1)) ((((hS.set 2 rfl 0 _).set 2 rfl 1 _).set 2 rfl 2 _).set 2 rfl 3 _)

set_option maxHeartbeats 4000000 in
set_option maxRecDepth 100000 in
/-- An entry of a kind that changes nothing. -/
theorem lApplyNo (gm cm gh ch : Nat) (c : Cfg) (e : Ent) (w : World) (h : Cf w gm cm gh ch c) (hok : c.ok = true) (he : e.Fits) (heok : e.ok = true) (hno : imLook doesL e.kind = none) :
    Calls Tryz.prog 11 #[.agg (cfC gm cm gh ch c), .agg e.cells] w fun r w' => AppPost w (c, 0) r w' := by
  have Hres := Lib.hid hno
  clear hno
  have HR := Lib.hid (fun (w1 : World) (f : Fr [] w w1) => lRight gm cm gh ch c w1 (h.fr f (by simp) (by simp)) hok)
  have HC := Lib.hid (fun (w1 : World) (f : Fr [] w w1) => cClone gm cm gh ch c w1 (h.fr f (by simp) (by simp)) hok)
  have HE := Lib.hid (fun (w1 : World) => eRight e w1 he)
  have HL := Lib.hid h
  clear h
  rw [heok] at HE
  unfold Ent.cells cfC ivV at *
  generalize hn : c.M.length = n at *
  generalize hk : c.G.length = k at *
  have HN := Lib.hid (And.intro hn hk)
  clear hn hk
  obtain ⟨cx, hcx⟩ : ∃ cx, w.heap.size = cx := ⟨_, rfl⟩
  have hS := (((Sat.refl [] w).new cx hcx #[.slice (some ⟨gm, 0, none⟩) n cm, .slice (some ⟨gh, 0, none⟩) k ch, .int .i64 c.lvl, .bool c.fin] 30).new (cx + 1) (by simp [hcx]) #[.int .u64 e.term, .int .u64 e.index, .int .i64 e.kind, .int .u64 e.client, .int .u64 e.seq, .int .u64 e.block, .int .u64 e.many, .int .i64 e.node, .int .i64 e.level, .string e.data, .string e.old] 24).new (cx + 2) (by simp [hcx]) #[.slice none 0 0, .slice none 0 0, .int .i64 0, .bool false] 30
  go_enter Tryz.func11, Tryz.ntmps11
  go_upto_region 1 with fail
  generalize ((w.alloc (.cells #[.slice (some ⟨gm, 0, none⟩) n cm, .slice (some ⟨gh, 0, none⟩) k ch, .int .i64 c.lvl, .bool c.fin] 30)).alloc (.cells #[.int .u64 e.term, .int .u64 e.index, .int .i64 e.kind, .int .u64 e.client, .int .u64 e.seq, .int .u64 e.block, .int .u64 e.many, .int .i64 e.node, .int .i64 e.level, .string e.data, .string e.old] 24)).alloc (.cells #[.slice none 0 0, .slice none 0 0, .int .i64 0, .bool false] 30) = w3 at *
  have HX := Lib.hid hcx
  clear hcx
  have fs := hS.says
  simp only [says, Ck.say] at fs
  go_upto_region 4 with (first
    | (go_at_call 12; refine Sat.callF hS (HR.out _ hS.fr) (fun w4 hS => ?_); clear fs; have fs := hS.says; simp only [says, Ck.say] at fs)
    | (go_at_call 24; refine Sat.callF hS (HE.out _) (fun w5 hS => ?_); clear fs; have fs := hS.says; simp only [says, Ck.say] at fs)
    | (go_at_call 25; refine Sat.call0 hS (HC.out _ hS.fr) (fun ⟨g1, c1, g2, c2⟩ w6 hS => ?_); clear fs; simp only [List.cons_append, List.nil_append] at hS; have fs := hS.says; simp only [says, Ck.say] at fs)
    | (refine wpList_makeMap 64 .i64 ?_; intro m wm HM HO F0; have HF : Hid (Fr [m] wm wm) := Fr.refl _ _)
    | (refine wpList_insertF 64 3 61 Tryz.underlying64 .i64 Tryz.underlying3 (.tmp 21) _ _ _ _ _ _ _ rfl rfl rfl HO HF rfl ?_; clear HO HF; intro wn HO HF))
  have hS := hS.fr0 ((F0.out.trans HF.out (fun x hx => by simp at hx; subst hx; exact .inr (Nat.le_of_eq HM.out.symm))))
  clear fs
  have fs := hS.says
  simp only [says, Ck.say] at fs
  go_wp2_with (first
    | (refine wpList_look 64 3 61 Tryz.underlying64 .i64 Tryz.underlying3 .nilFunc doZero (.tmp 24) (.tmp 26) _ _ _ rfl rfl HO true _ Hres.out ?_)
    | (go_at_call 25; refine Sat.call0 hS (HC.out _ hS.fr) (fun ⟨g1, c1, g2, c2⟩ w6 hS => ?_); clear fs; simp only [List.cons_append, List.nil_append] at hS; have fs := hS.says; simp only [says, Ck.say] at fs))
  refine bodyPost_ret (v := .tuple #[.agg #[.slice (some ⟨g1, 0, none⟩) n c1, .slice (some ⟨g2, 0, none⟩) k c2, .int .i64 c.lvl, .bool c.fin], .int .i64 0]) (by simp [results, Tryz.results11, go_sem, fs]) rfl ?_
  obtain ⟨rfl, rfl⟩ := HN.out
  exact AppPost.of (a := (c, 0)) ((((hS.set 2 rfl 0 _).set 2 rfl 1 _).set 2 rfl 2 _).set 2 rfl 3 _)

theorem Sat.told {w0 w w' : World} {Bs : List Ck} {B dx : Nat} {c : Cfg} (hS : Sat [] w0 Bs w) (hB0 : w0.heap.size ≤ B) (hBs : ∀ d, d ∈ Bs → d.1 < B) (k : Below B w w') : Sat [] w0 Bs w' ∧ (LM B w' dx c → ∃ gm cm gh ch, Sat [] w0 (cfH dx gm cm gh ch c ++ Bs) w') := by
  have hf : Fr [] w0 w' := ⟨k.os.trans hS.fr.os, k.tape.trans hS.fr.tape, k.output.trans hS.fr.output, Nat.le_trans hS.fr.size k.size, fun i hi hn => (k.block i (by omega)).trans (hS.fr.block i hi hn)⟩
  have h1 : Sat [] w0 Bs w' := ⟨hf, hS.nd, fun d hd => (hS.all d hd).same (k.block d.1 (hBs d hd)), hS.own⟩
  refine ⟨h1, fun hL => ?_⟩
  obtain ⟨gm, cm, gh, ch, hL, b1, b2, b3⟩ := hL.sat
  have hge : ∀ d, d ∈ cfH dx gm cm gh ch c → B ≤ d.1 := by
    intro d hd
    simp only [cfH, List.mem_cons, List.not_mem_nil, or_false] at hd
    rcases hd with rfl | rfl | rfl <;> assumption
  refine ⟨gm, cm, gh, ch, hf, ?_, ?_, ?_⟩
  · rw [List.map_append, List.nodup_append]
    refine ⟨hL.nd, h1.nd, ?_⟩
    intro x hx y hy
    obtain ⟨d, hd, rfl⟩ := List.mem_map.1 hx
    obtain ⟨f, hf', rfl⟩ := List.mem_map.1 hy
    have := hge d hd
    have := hBs f hf'
    omega
  · intro d hd
    rcases List.mem_append.1 hd with h2 | h2
    · exact hL.all d h2
    · exact h1.all d h2
  · intro d hd
    rcases List.mem_append.1 hd with h2 | h2
    · have := hge d h2; right; omega
    · exact h1.own d h2

theorem LM.of_sat3 {w0 w : World} {cx dx g1 c1 g2 c2 : Nat} {c : Cfg} {A0 A1 A2 : Ch} (hS : Sat [] w0 [(dx, .cel (cfC g1 c1 g2 c2 c) 30), (g1, ivCh 3 c1 c.M), (g2, ivCh 3 c2 c.G), (cx + 2, A2), (cx + 1, A1), (cx, A0)] w) (hx : w0.heap.size = cx) :
    LM (cx + 3) w dx c ∧ (∀ d, d ∈ [((cx + 2, A2) : Ck), (cx + 1, A1), (cx, A0)] → d.1 < cx + 3) ∧ Sat [] w0 [(cx + 2, A2), (cx + 1, A1), (cx, A0)] w := by
  have nd := hS.nd
  simp at nd
  have o1 := (hS.own _ (List.mem_of_getElem? (at0 (L := _)))).resolve_left (by simp)
  have o2 := (hS.own _ (List.mem_of_getElem? (at1 (L := _)))).resolve_left (by simp)
  have o3 := (hS.own _ (List.mem_of_getElem? (at2 (L := _)))).resolve_left (by simp)
  simp only at o1 o2 o3
  refine ⟨⟨g1, c1, g2, c2, Ck.cel_in.1 (hS.mem 0 rfl), Iv.ck.2 (hS.mem 1 rfl), Iv.ck.2 (hS.mem 2 rfl), by omega, by omega, by omega, by omega, by omega, by omega⟩, ?_, hS.sub (.cons _ (.cons _ (.cons _ (List.Sublist.refl _))))⟩
  intro d hd
  simp only [List.mem_cons, List.not_mem_nil, or_false] at hd
  rcases hd with rfl | rfl | rfl <;> simp only <;> omega

set_option maxHeartbeats 4000000 in
set_option maxRecDepth 100000 in
/-- An entry of a kind that changes something: by what the change does. -/
theorem lApplyGo (F : FuncId) (a : Cfg × Int) (gm cm gh ch : Nat) (c : Cfg) (e : Ent) (w : World) (h : Cf w gm cm gh ch c) (hok : c.ok = true) (he : e.Fits) (heok : e.ok = true) (hgo : imLook doesL e.kind = some (.func (.func F) #[] #[]))
    (goes : ∀ args w, (callFunc F args).run Tryz.prog w = .ok (.enter F args) w) (hcall : ∀ B dx w, LM B w dx c → Calls Tryz.prog F #[.pointer (some ⟨dx, 0, none⟩), .agg e.cells] w fun r w' => Told B dx w a r w') (ha : a.2 ≠ 0 → a.1 = c) :
    Calls Tryz.prog 11 #[.agg (cfC gm cm gh ch c), .agg e.cells] w fun r w' => AppPost w a r w' := by
  have Hres := Lib.hid hgo
  have HF1 := Lib.hid hcall
  clear hgo hcall
  have HR := Lib.hid (fun (w1 : World) (f : Fr [] w w1) => lRight gm cm gh ch c w1 (h.fr f (by simp) (by simp)) hok)
  have HC := Lib.hid (fun (w1 : World) (f : Fr [] w w1) => cClone gm cm gh ch c w1 (h.fr f (by simp) (by simp)) hok)
  have HE := Lib.hid (fun (w1 : World) => eRight e w1 he)
  have HL := Lib.hid h
  clear h
  rw [heok] at HE
  unfold Ent.cells cfC ivV at *
  generalize hn : c.M.length = n at *
  generalize hk : c.G.length = k at *
  have HN := Lib.hid (And.intro hn hk)
  clear hn hk
  obtain ⟨cx, hcx⟩ : ∃ cx, w.heap.size = cx := ⟨_, rfl⟩
  have hS := (((Sat.refl [] w).new cx hcx #[.slice (some ⟨gm, 0, none⟩) n cm, .slice (some ⟨gh, 0, none⟩) k ch, .int .i64 c.lvl, .bool c.fin] 30).new (cx + 1) (by simp [hcx]) #[.int .u64 e.term, .int .u64 e.index, .int .i64 e.kind, .int .u64 e.client, .int .u64 e.seq, .int .u64 e.block, .int .u64 e.many, .int .i64 e.node, .int .i64 e.level, .string e.data, .string e.old] 24).new (cx + 2) (by simp [hcx]) #[.slice none 0 0, .slice none 0 0, .int .i64 0, .bool false] 30
  go_enter Tryz.func11, Tryz.ntmps11
  go_upto_region 1 with fail
  generalize ((w.alloc (.cells #[.slice (some ⟨gm, 0, none⟩) n cm, .slice (some ⟨gh, 0, none⟩) k ch, .int .i64 c.lvl, .bool c.fin] 30)).alloc (.cells #[.int .u64 e.term, .int .u64 e.index, .int .i64 e.kind, .int .u64 e.client, .int .u64 e.seq, .int .u64 e.block, .int .u64 e.many, .int .i64 e.node, .int .i64 e.level, .string e.data, .string e.old] 24)).alloc (.cells #[.slice none 0 0, .slice none 0 0, .int .i64 0, .bool false] 30) = w3 at *
  have HX := Lib.hid hcx
  clear hcx
  have fs := hS.says
  simp only [says, Ck.say] at fs
  go_upto_region 4 with (first
    | (go_at_call 12; refine Sat.callF hS (HR.out _ hS.fr) (fun w4 hS => ?_); clear fs; have fs := hS.says; simp only [says, Ck.say] at fs)
    | (go_at_call 24; refine Sat.callF hS (HE.out _) (fun w5 hS => ?_); clear fs; have fs := hS.says; simp only [says, Ck.say] at fs)
    | (go_at_call 25; refine Sat.call0 hS (HC.out _ hS.fr) (fun ⟨g1, c1, g2, c2⟩ w6 hS => ?_); clear fs; simp only [List.cons_append, List.nil_append] at hS; have fs := hS.says; simp only [says, Ck.say] at fs)
    | (refine wpList_makeMap 64 .i64 ?_; intro m wm HM HO F0; have HF : Hid (Fr [m] wm wm) := Fr.refl _ _)
    | (refine wpList_insertF 64 3 61 Tryz.underlying64 .i64 Tryz.underlying3 (.tmp 21) _ _ _ _ _ _ _ rfl rfl rfl HO HF rfl ?_; clear HO HF; intro wn HO HF))
  have hS := hS.fr0 ((F0.out.trans HF.out (fun x hx => by simp at hx; subst hx; exact .inr (Nat.le_of_eq HM.out.symm))))
  clear fs
  have fs := hS.says
  simp only [says, Ck.say] at fs
  go_upto_region 8 with (first
    | (refine wpList_look 64 3 61 Tryz.underlying64 .i64 Tryz.underlying3 .nilFunc doZero (.tmp 24) (.tmp 26) _ _ _ rfl rfl HO true _ Hres.out ?_)
    | (go_at_call 25; refine Sat.call0 hS (HC.out _ hS.fr) (fun ⟨g1, c1, g2, c2⟩ w6 hS => ?_); clear fs; simp only [List.cons_append, List.nil_append] at hS; have fs := hS.says; simp only [says, Ck.say] at fs))
  have hS := hS.new _ rfl #[.slice (some ⟨g1, 0, none⟩) n c1, .slice (some ⟨g2, 0, none⟩) k c2, .int .i64 c.lvl, .bool c.fin] 30
  generalize w6.heap.size = dx at *
  generalize w6.alloc (.cells #[.slice (some ⟨g1, 0, none⟩) n c1, .slice (some ⟨g2, 0, none⟩) k c2, .int .i64 c.lvl, .bool c.fin] 30) = w7 at *
  clear fs
  have fs := hS.says
  simp only [says, Ck.say] at fs
  go_wp2_with fail
  have hL : LM (cx + 3) w7 dx c ∧ _ := LM.of_sat3 (g1 := g1) (c1 := c1) (g2 := g2) (c2 := c2) (c := c) (by unfold cfC ivV; rw [HN.out.1, HN.out.2]; exact hS) HX.out
  refine (HF1.out (cx + 3) dx w7 hL.1).mono ?_
  rintro r w8 ⟨rfl, hM, hb⟩
  have hT := Sat.told (dx := dx) (c := a.1) hL.2.2 (by rw [HX.out]; omega) hL.2.1 hb
  clear hS fs
  obtain ⟨a1, a2⟩ := a
  simp only at hM hT ha
  by_cases h0 : a2 = 0
  · subst h0
    obtain ⟨g3, c3, g4, c4, hS⟩ := hT.2 (hM rfl)
    clear hM hT hL hb
    unfold cfH cfC ivV at hS
    simp only [List.cons_append, List.nil_append] at hS
    have fs := hS.says
    simp only [says, Ck.say] at fs
    go_wp2_with fail
    refine bodyPost_ret (v := .tuple #[.agg #[.slice (some ⟨g3, 0, none⟩) a1.M.length c3, .slice (some ⟨g4, 0, none⟩) a1.G.length c4, .int .i64 a1.lvl, .bool a1.fin], .int .i64 0]) (by simp [results, Tryz.results11, go_sem, fs]) rfl ?_
    exact AppPost.of (a := (a1, 0)) (((((hS.set 3 rfl 0 _).set 3 rfl 1 _).set 3 rfl 2 _).set 3 rfl 3 _).sub (.cons _ (List.Sublist.refl _)))
  · obtain rfl : a1 = c := ha h0
    have hS := hT.1
    clear hM hT hL hb
    have fs := hS.says
    simp only [says, Ck.say] at fs
    go_wp2_with (go_at_call 25; refine Sat.call0 hS (HC.out _ hS.fr) (fun ⟨g3, c3, g4, c4⟩ w9 hS => ?_); clear fs; simp only [List.cons_append, List.nil_append] at hS; have fs := hS.says; simp only [says, Ck.say] at fs)
    refine bodyPost_ret (v := .tuple #[.agg #[.slice (some ⟨g3, 0, none⟩) n c3, .slice (some ⟨g4, 0, none⟩) k c4, .int .i64 a1.lvl, .bool a1.fin], .int .i64 a2]) (by simp [results, Tryz.results11, go_sem, fs]) rfl ?_
    obtain ⟨rfl, rfl⟩ := HN.out
    exact AppPost.of (a := (a1, a2)) ((((hS.set 2 rfl 0 _).set 2 rfl 1 _).set 2 rfl 2 _).set 2 rfl 3 _)
end Go.Proofs.YtnnpjjehecbljaaGreatDoor

namespace Go.Proofs.YtnnpjjehecbljaaGreatDoor
open Go.RowKit Go.Shelf

/-- The config that New makes. -/
def newC (L : List Int) : Cfg := ⟨memL L, List.replicate (memL L).length 1, 1, false⟩

theorem set4_end {u : World} {r : Nat} {va vb vl vf z0 z1 z2 z3 : Value} {t : TypeId} (hR : Blk u r #[z0, z1, z2, z3] t) :
    Blk ((((u.setCell ⟨r, 0, none⟩ va).setCell ⟨r, 1, none⟩ vb).setCell ⟨r, 2, none⟩ vl).setCell ⟨r, 3, none⟩ vf) r #[va, vb, vl, vf] t ∧
    Fr [r] u ((((u.setCell ⟨r, 0, none⟩ va).setCell ⟨r, 1, none⟩ vb).setCell ⟨r, 2, none⟩ vl).setCell ⟨r, 3, none⟩ vf) := by
  constructor
  · exact (((hR.set 0 va).set 1 vb).set 2 vl).set 3 vf
  · exact (((((Fr.refl _ u).setCell (p := ⟨r, 0, none⟩) (by simp) va).setCell (p := ⟨r, 1, none⟩) (by simp) vb).setCell (p := ⟨r, 2, none⟩) (by simp) vl).setCell (p := ⟨r, 3, none⟩) (by simp) vf)
theorem newC_cells (L : List Int) (gm cm gh ch k : Nat) (hk : (memL L).length = k) : cfC gm cm gh ch (newC L) = #[.slice (some ⟨gm, 0, none⟩) k cm, .slice (some ⟨gh, 0, none⟩) k ch, .int .i64 1, .bool false] := by
  unfold cfC ivV newC
  simp [hk]

set_option maxHeartbeats 4000000 in
set_option maxRecDepth 100000 in
theorem lNew (g cap : Nat) (L : List Int) (w : World) (h : Iv w g cap L) (hne : L ≠ []) (h4 : L.length ≤ 4096) (hok : (newC L).ok = true) :
    Calls Tryz.prog 7 #[.slice (some ⟨g, 0, none⟩) L.length cap] w fun e w' => ∃ gm cm gh ch, e = .returned (.tuple #[.agg (cfC gm cm gh ch (newC L)), .bool true]) ∧ Cf w' gm cm gh ch (newC L) ∧ w.heap.size ≤ gm ∧ w.heap.size ≤ gh ∧ Fr [] w w' := by
  have hn1 : 1 ≤ (memL L).length := ((Cfg.ok_iff _).1 hok).1
  have hn7 : (memL L).length ≤ 7 := ((Cfg.ok_iff _).1 hok).2.1
  have hZ : (memL L).length = (Lib.compact (isortL L)).length := rfl
  obtain ⟨w0, hw0⟩ : ∃ w0, w.alloc (.cells #[.slice none 0 0, .slice none 0 0, .int .i64 0, .bool false] 30) = w0 := ⟨_, rfl⟩
  have F0 : Fr [] w w0 := by rw [← hw0]; exact (Fr.refl [] w).alloc _
  have R0 : Blk w0 w.heap.size #[.slice none 0 0, .slice none 0 0, .int .i64 0, .bool false] 30 := by rw [← hw0]; exact Blk.new _ _ _
  have h0 : Iv w0 g cap L := h.fr F0 (by simp)
  obtain ⟨w1, hw1⟩ : ∃ w1, w0.alloc (.cells #[.slice (some ⟨g, 0, none⟩) L.length cap] 28) = w1 := ⟨_, rfl⟩
  have F1 : Fr [] w0 w1 := by rw [← hw1]; exact (Fr.refl [] w0).alloc _
  have B1 : Blk w1 w0.heap.size #[.slice (some ⟨g, 0, none⟩) L.length cap] 28 := by rw [← hw1]; exact Blk.new _ _ _
  have h1 : Iv w1 g cap L := h0.fr F1 (by simp)
  have HS := Lib.hid (sSorted L hne h4 w0.heap.size w1 (sValsStops Fence.wide 4 trivial rfl (by omega) w0.heap.size w1.heap.size _ L h4 w1 B1.lt (Nat.le_refl _) (B1.cellAt (i := 0) rfl) h1.at))
  have HW0 := Lib.hid hw0
  have HW1 := Lib.hid hw1
  have HF0 := Lib.hid F0
  have HF1 := Lib.hid F1
  have HR0 := Lib.hid R0
  clear hw0 hw1 F0 F1 R0 h0 h1 B1 h
  have hil : (isortL L).length = L.length := isortL_length L
  generalize hl : L.length = n at *
  go_enter Tryz.func7, Tryz.ntmps7
  go_upto_region 1 with fail
  rw [HW0.out]
  have HRL := Lib.hid HR0.out.lt
  generalize hrx : w.heap.size = rx at *
  have HRX := Lib.hid hrx
  clear hrx
  go_upto_region 2 with (first
    | (go_at_call 20; refine (sValsC _ _ _ _).mono ?_; rintro e w' ⟨rfl, rfl⟩; rw [HW1.out])
    | (go_at_call 19; refine HS.out.mono ?_; rintro e w2 ⟨g2, c2, rfl, hg2, i2, f2⟩; have G2 := Lib.hid hg2; have I2 := Lib.hid i2; have F2 := Lib.hid f2; clear hg2 i2 f2)
    | (go_at_call 18; refine (sCompact g2 c2 (isortL L) _ I2.out (by omega) _ (by omega)).mono ?_; rintro e w3 ⟨rfl, i3, f3⟩; have I3 := Lib.hid i3; have F3 := Lib.hid f3; clear i3 f3))
  have hk2 : (memL L).length = (Lib.compact (isortL L)).length := rfl
  have I3' : Hid (Iv w3 g2 c2 (memL L)) := I3
  clear I3 hZ HS
  generalize hk : (Lib.compact (isortL L)).length = k at *
  have hg2 := I3'.out.lt
  have hs0 := HF1.out.size
  have hs1 := F2.out.size
  have hs2 := F3.out.size
  have hs3 := G2.out
  have hr0 := HRL.out
  have R3 := Lib.hid (((HR0.out.fr0 HF1.out).fr0 F2.out).fr F3.out (by simp; omega))
  have FW3 := Lib.hid ((HF0.out.trans0 (HF1.out.trans0 F2.out)).trans F3.out (fun x hx => by simp at hx; subst hx; right; have := HF0.out.size; omega))
  have B4 := Blk.new w3 #[.slice (some ⟨g2, 0, none⟩) k c2, .slice none 0 0, .int .i64 1, .bool false] 30
  have I4 := Lib.hid (I3'.out.alloc (.cells #[.slice (some ⟨g2, 0, none⟩) k c2, .slice none 0 0, .int .i64 1, .bool false] 30))
  have R4 := Lib.hid (R3.out.alloc (.cells #[.slice (some ⟨g2, 0, none⟩) k c2, .slice none 0 0, .int .i64 1, .bool false] 30))
  have FW4 := Lib.hid (FW3.out.alloc (.cells #[.slice (some ⟨g2, 0, none⟩) k c2, .slice none 0 0, .int .i64 1, .bool false] 30))
  have HB4 := Lib.hid B4
  clear B4 R3 FW3 I3' HF0 HF1 HR0 I2 F2 F3
  generalize hw4 : w3.alloc (.cells #[.slice (some ⟨g2, 0, none⟩) k c2, .slice none 0 0, .int .i64 1, .bool false] 30) = w4 at *
  clear hw4
  generalize hdx : w3.heap.size = dx at *
  have d0 := HB4.out.cellAt (i := 0) (v := .slice (some ⟨g2, 0, none⟩) k c2) rfl
  have hd4 := HB4.out.lt
  have HRep := Lib.hid (sRepeat w4.heap.size 1 k (w4.alloc (.cells #[.int .i64 1] 3)) ((Blk.new w4 #[.int .i64 1] 3).cellAt (i := 0) rfl) (by omega) (by omega))
  have HB5 := Lib.hid (HB4.out.alloc (.cells #[.int .i64 1] 3))
  have R5 := Lib.hid (R4.out.alloc (.cells #[.int .i64 1] 3))
  have I5 := Lib.hid (I4.out.alloc (.cells #[.int .i64 1] 3))
  have FW5 := Lib.hid (FW4.out.alloc (.cells #[.int .i64 1] 3))
  go_upto_region 3 with (go_at_call 21; refine HRep.out.mono ?_; rintro e w6 ⟨g6, c6, rfl, hg6, i6, f6⟩; have G6 := Lib.hid hg6; have I6 := Lib.hid i6; have F6 := Lib.hid f6; have B6 := Lib.hid (HB5.out.fr0 f6); have R6 := Lib.hid (R5.out.fr0 f6); have J6 := Lib.hid (I5.out.fr f6 (by simp)); have FW6 := Lib.hid (FW5.out.trans0 f6); have q1 := B6.out.cellAt (i := 1) (v := .slice none 0 0) rfl; have z1 := B6.out.froz 1; clear hg6 i6 f6)
  have hs5 : w4.heap.size < (w4.alloc (.cells #[.int .i64 1] 3)).heap.size := by simp
  have hg6 := G6.out
  have hs6 := F6.out.size
  have hl6 := I6.out.lt
  have hg26 : g2 ≠ g6 := by omega
  have hrd : rx ≠ dx := by omega
  have B7 : Hid (Blk (w6.setCell ⟨dx, 1, none⟩ (.slice (some ⟨g6, 0, none⟩) k c6)) dx #[.slice (some ⟨g2, 0, none⟩) k c2, .slice (some ⟨g6, 0, none⟩) k c6, .int .i64 1, .bool false] 30) := B6.out.set 1 _
  have R7 : Hid (Blk (w6.setCell ⟨dx, 1, none⟩ (.slice (some ⟨g6, 0, none⟩) k c6)) rx #[.slice none 0 0, .slice none 0 0, .int .i64 0, .bool false] 30) := R6.out.far (p := ⟨dx, 1, none⟩) hrd _
  have I7 : Hid (Iv (w6.setCell ⟨dx, 1, none⟩ (.slice (some ⟨g6, 0, none⟩) k c6)) g2 c2 (memL L)) := J6.out.far (p := ⟨dx, 1, none⟩) (by show g2 ≠ dx; omega) _
  have K7 : Hid (Iv (w6.setCell ⟨dx, 1, none⟩ (.slice (some ⟨g6, 0, none⟩) k c6)) g6 c6 (List.replicate k 1)) := I6.out.far (p := ⟨dx, 1, none⟩) (by show g6 ≠ dx; omega) _
  have hw0s : w.heap.size ≤ dx := by have := HRX.out; omega
  have FW7 : Hid (Fr [] w (w6.setCell ⟨dx, 1, none⟩ (.slice (some ⟨g6, 0, none⟩) k c6))) := FW6.out.setCell (p := ⟨dx, 1, none⟩) (Or.inr hw0s) _
  clear FW6 I6 J6 B6 R6 q1 z1 d0 HRep HB5 R5 I5 FW5 HB4 I4 R4 FW4
  generalize w6.setCell ⟨dx, 1, none⟩ (.slice (some ⟨g6, 0, none⟩) k c6) = w7 at *
  have hCf : Cf w7 g2 c2 g6 c6 (newC L) := ⟨I7.out, by show Iv w7 g6 c6 (List.replicate (memL L).length 1); rw [hk2]; exact K7.out, hg26⟩
  have HCf := Lib.hid hCf
  have HRt := Lib.hid (lRight g2 c2 g6 c6 (newC L) w7 hCf hok)
  have HCell := Lib.hid (newC_cells L g2 c2 g6 c6 k hk2)
  rw [HCell.out] at HRt
  clear hCf
  have p0 := B7.out.cellAt (i := 0) (v := .slice (some ⟨g2, 0, none⟩) k c2) rfl
  have p1 := B7.out.cellAt (i := 1) (v := .slice (some ⟨g6, 0, none⟩) k c6) rfl
  have p2 := B7.out.cellAt (i := 2) (v := .int .i64 1) rfl
  have p3 := B7.out.cellAt (i := 3) (v := .bool false) rfl
  go_wp2_with (go_at_call 12; refine HRt.out.mono ?_; rintro e w8 ⟨rfl, f8⟩; have F8 := Lib.hid f8; have B8 := B7.out.fr0 f8; have p0 := B8.cellAt (i := 0) (v := .slice (some ⟨g2, 0, none⟩) k c2) rfl; have p1 := B8.cellAt (i := 1) (v := .slice (some ⟨g6, 0, none⟩) k c6) rfl; have p2 := B8.cellAt (i := 2) (v := .int .i64 1) rfl; have p3 := B8.cellAt (i := 3) (v := .bool false) rfl; have R8 := R7.out.fr0 f8; have r0 := R8.cellAt (i := 0) (v := .slice none 0 0) rfl; have r1 := R8.cellAt (i := 1) (v := .slice none 0 0) rfl; have r2 := R8.cellAt (i := 2) (v := .int .i64 0) rfl; have r3 := R8.cellAt (i := 3) (v := .bool false) rfl; have rz := R8.froz; have HR8 := Lib.hid R8; clear f8 B8 R8)
  obtain ⟨hX, hFX⟩ := set4_end (va := .slice (some ⟨g2, 0, none⟩) k c2) (vb := .slice (some ⟨g6, 0, none⟩) k c6) (vl := .int .i64 1) (vf := .bool false) HR8.out
  generalize (((w8.setCell ⟨rx, 0, none⟩ (.slice (some ⟨g2, 0, none⟩) k c2)).setCell ⟨rx, 1, none⟩ (.slice (some ⟨g6, 0, none⟩) k c6)).setCell ⟨rx, 2, none⟩ (.int .i64 1)).setCell ⟨rx, 3, none⟩ (.bool false) = X at *
  have y0 := hX.cellAt (i := 0) (v := .slice (some ⟨g2, 0, none⟩) k c2) rfl
  have y1 := hX.cellAt (i := 1) (v := .slice (some ⟨g6, 0, none⟩) k c6) rfl
  have y2 := hX.cellAt (i := 2) (v := .int .i64 1) rfl
  have y3 := hX.cellAt (i := 3) (v := .bool false) rfl
  refine bodyPost_ret (v := .tuple #[.agg #[.slice (some ⟨g2, 0, none⟩) k c2, .slice (some ⟨g6, 0, none⟩) k c6, .int .i64 1, .bool false], .bool true]) (by simp [results, Tryz.results7, go_sem, y0, y1, y2, y3]) rfl ?_
  have hrx := HRX.out
  refine ⟨g2, c2, g6, c6, by rw [HCell.out], ((HCf.out.fr F8.out (by simp) (by simp)).fr hFX (by simp; omega) (by simp; omega)), by omega, by omega, ?_⟩
  exact (FW7.out.trans0 F8.out).trans hFX (fun x hx => by simp at hx; right; omega)
end Go.Proofs.YtnnpjjehecbljaaGreatDoor

namespace Go.Proofs.YtnnpjjehecbljaaGreatDoor
open Go.RowKit Go.Shelf

/-- Sorted, of the values of nil. -/
theorem sSorted0 (Bs : Nat) (w : World) (hseq : SeqStopsK Fence.wide 4 Tryz.prog 46 #[.pointer (some ⟨Bs, 0, none⟩)] (fun x : Int => #[Value.int .i64 x]) (Below w.heap.size) (fun ys => ys = []) (fun _ => True) ([] : List Int).length w) :
    Calls Tryz.prog 19 #[.func (.func 46) #[] #[.pointer (some ⟨Bs, 0, none⟩)]] w fun e w' => ∃ a cap, e = .returned (.slice a 0 cap) ∧ Fr [] w w' := by
  refine (callsIn_wide (n := 7)).1 ?_
  have hC := sCollect Fence.wide 6 trivial trivial rfl (by omega) 46 #[.pointer (some ⟨Bs, 0, none⟩)] trivial (enters_of Tryz.func46 (by kernel_rfl) rfl) [] (by decide) w w (Below.refl _ _) hseq
  have t1 : Fence.wide.fn 44 := trivial
  have t2 : Fence.wide.fn 45 := trivial
  refine callsIn_of_wp Tryz.func19 rfl trivial ?_ rfl
  simp only [Tryz.ntmps19, List.size_toArray, List.length_cons, List.length_nil, Nat.reduceAdd, Nat.reduceSub, Array.replicate_succ, Array.replicate_zero, List.push_toArray, List.append_toArray, List.nil_append, List.cons_append]
  have hsl : ∀ {W : World} {B : Nat} {v : Value}, W.ownsRow B 3 1 v 0 [] → ∃ a cap, v = .slice a 0 cap := by
    intro W B v h
    rcases h.2 with h | ⟨g, cap, cur, h, -⟩
    · exact ⟨none, 0, h.1⟩
    · exact ⟨_, cap, h⟩
  gi_wp2_with (first
    | (gi_at_call 44; refine hC.mono ?_; rintro e w1 ⟨v, rfl, hrow, hb⟩; obtain ⟨a, cap, rfl⟩ := hsl hrow; have HB := Lib.hid (Fr.ofBelow hb); have HS := Lib.hid (callsIn_wide (n := 6).2 (Tryz.slices_Sort_int_none a cap w1)); clear hb hrow)
    | (gi_at_call 45; refine HS.out.mono ?_; rintro e w2 ⟨rfl, rfl⟩))
  go_ret
  exact ⟨a, cap, rfl, HB.out⟩

set_option maxHeartbeats 2000000 in
theorem lRightNo (a b : Option Addr) (ca cb : Nat) (w : World) :
    Calls Tryz.prog 12 #[.agg #[.slice a 0 ca, .slice b 0 cb, .int .i64 1, .bool false]] w fun e w' => e = .returned (.bool false) ∧ Fr [] w w' := by
  have HF := Lib.hid (fun o => (Fr.refl [] w).alloc o)
  go_enter Tryz.func12, Tryz.ntmps12
  go_wp2_with (go_at_call 32; refine (lInNo _ _ _ (by omega) _).mono ?_; rintro e w' ⟨rfl, rfl⟩)
  go_ret
  exact ⟨rfl, HF.out _⟩

set_option maxHeartbeats 4000000 in
set_option maxRecDepth 100000 in
theorem sRepeat0 (bx cx : Nat) (w : World) :
    Calls Tryz.prog 21 #[.slice (some ⟨bx, 0, none⟩) 1 cx, .int .i64 0] w fun e w' => ∃ g cap, e = .returned (.slice (some ⟨g, 0, none⟩) 0 cap) ∧ Fr [] w w' := by
  have mixed : Tryz.prog.follows Departure.mixedOrders = true := by kernel_rfl
  have HM := Lib.hid (Tryz.bits_Mul 1 0 (by decide) (by decide) w)
  go_enter Tryz.func21, Tryz.ntmps21
  go_wp2_with (first
    | (go_at_call 47; refine HM.out.mono ?_; rintro e w' ⟨rfl, rfl⟩)
    | (refine wpList_makeN Tryz.elI rfl _ _ 0 _ _ rfl rfl (by decide) (by decide) ?_; intro g w1 HG HB HF; have HC := fun ty => copyOnes w1 ty g 0 0 0 bx 0 1 cx 0 rfl (fun j hj => absurd hj (Nat.not_lt_zero j)) (fun j hj => absurd hj (Nat.not_lt_zero j)) HB.out.froz)
    | (at_builtin; refine wpList_copy_runI _ rfl _ _ 28 28 rfl _ _ rfl rfl (HC _) ?_))
  all_goals
    go_loopw [8] (fun v wr => v = .int .i64 0 ∧ Hid (Fr [] w' wr)) (fun _ _ => 0)
    case atStart => exact ⟨rfl, HF⟩
    case round =>
      obtain ⟨rfl, F⟩ := hrel
      go_wp2_with fail
      go_ret
      exact ⟨g, 0, rfl, F.out⟩

set_option maxHeartbeats 4000000 in
set_option maxRecDepth 100000 in
theorem lNew0 (w : World) :
    Calls Tryz.prog 7 #[.slice none 0 0] w fun e w' => e = .returned (.tuple #[.agg #[.slice none 0 0, .slice none 0 0, .int .i64 0, .bool false], .bool false]) ∧ Fr [] w w' := by
  obtain ⟨w0, hw0⟩ : ∃ w0, w.alloc (.cells #[.slice none 0 0, .slice none 0 0, .int .i64 0, .bool false] 30) = w0 := ⟨_, rfl⟩
  have F0 : Fr [] w w0 := by rw [← hw0]; exact (Fr.refl [] w).alloc _
  have R0 : Blk w0 w.heap.size #[.slice none 0 0, .slice none 0 0, .int .i64 0, .bool false] 30 := by rw [← hw0]; exact Blk.new _ _ _
  obtain ⟨w1, hw1⟩ : ∃ w1, w0.alloc (.cells #[.slice none 0 0] 28) = w1 := ⟨_, rfl⟩
  have F1 : Fr [] w0 w1 := by rw [← hw1]; exact (Fr.refl [] w0).alloc _
  have B1 : Blk w1 w0.heap.size #[.slice none 0 0] 28 := by rw [← hw1]; exact Blk.new _ _ _
  have HS := Lib.hid (sSorted0 w0.heap.size w1 (sValsStops Fence.wide 4 trivial rfl (by omega) w0.heap.size w1.heap.size _ [] (by decide) w1 B1.lt (Nat.le_refl _) (B1.cellAt (i := 0) rfl) (.inl ⟨rfl, rfl⟩)))
  have HW0 := Lib.hid hw0
  have HW1 := Lib.hid hw1
  have HF0 := Lib.hid (F0.trans0 F1)
  have HR0 := Lib.hid (R0.fr0 F1)
  clear hw0 hw1 F0 F1 R0 B1
  go_enter Tryz.func7, Tryz.ntmps7
  go_upto_region 1 with fail
  rw [HW0.out]
  generalize hrx : w.heap.size = rx at *
  have HRX := Lib.hid hrx
  clear hrx
  go_upto_region 2 with (first
    | (go_at_call 20; refine (sValsC _ _ _ _).mono ?_; rintro e w' ⟨rfl, rfl⟩; rw [HW1.out])
    | (go_at_call 19; refine HS.out.mono ?_; rintro e w2 ⟨a, c2, rfl, f2⟩; have F2 := Lib.hid f2; clear f2)
    | (go_at_call 18; refine (Tryz.slices_Compact_int_empty a c2 _).mono ?_; rintro e w3 ⟨rfl, rfl⟩))
  have R3 := HR0.out.fr0 F2.out
  have FW3 := HF0.out.trans0 F2.out
  have HB4 := Lib.hid (Blk.new w3 #[.slice a 0 c2, .slice none 0 0, .int .i64 1, .bool false] 30)
  have R4 := Lib.hid (R3.alloc (.cells #[.slice a 0 c2, .slice none 0 0, .int .i64 1, .bool false] 30))
  have FW4 := Lib.hid (FW3.alloc (.cells #[.slice a 0 c2, .slice none 0 0, .int .i64 1, .bool false] 30))
  have hlt3 := Lib.hid R3.lt
  clear R3 FW3 HR0 HF0 HS
  generalize hw4 : w3.alloc (.cells #[.slice a 0 c2, .slice none 0 0, .int .i64 1, .bool false] 30) = w4 at *
  clear hw4
  have hrd : rx < w3.heap.size := hlt3.out
  generalize w3.heap.size = dx at *
  have d0 := HB4.out.cellAt (i := 0) (v := .slice a 0 c2) rfl
  have hd4 := HB4.out.lt
  have HRep := Lib.hid (sRepeat0 w4.heap.size 1 (w4.alloc (.cells #[.int .i64 1] 3)))
  have HB5 := Lib.hid (HB4.out.alloc (.cells #[.int .i64 1] 3))
  have R5 := Lib.hid (R4.out.alloc (.cells #[.int .i64 1] 3))
  have FW5 := Lib.hid (FW4.out.alloc (.cells #[.int .i64 1] 3))
  go_upto_region 3 with (go_at_call 21; refine HRep.out.mono ?_; rintro e w6 ⟨g6, c6, rfl, f6⟩; have B6 := Lib.hid (HB5.out.fr0 f6); have R6 := Lib.hid (R5.out.fr0 f6); have FW6 := Lib.hid (FW5.out.trans0 f6); have q1 := B6.out.cellAt (i := 1) (v := .slice none 0 0) rfl; have z1 := B6.out.froz 1; clear f6)
  have hne : rx ≠ dx := by omega
  have hwd : w.heap.size ≤ dx := by have := HRX.out; omega
  have B7 : Hid (Blk (w6.setCell ⟨dx, 1, none⟩ (.slice (some ⟨g6, 0, none⟩) 0 c6)) dx #[.slice a 0 c2, .slice (some ⟨g6, 0, none⟩) 0 c6, .int .i64 1, .bool false] 30) := B6.out.set 1 _
  have R7 : Hid (Blk (w6.setCell ⟨dx, 1, none⟩ (.slice (some ⟨g6, 0, none⟩) 0 c6)) rx #[.slice none 0 0, .slice none 0 0, .int .i64 0, .bool false] 30) := R6.out.far (p := ⟨dx, 1, none⟩) hne _
  have FW7 : Hid (Fr [] w (w6.setCell ⟨dx, 1, none⟩ (.slice (some ⟨g6, 0, none⟩) 0 c6))) := FW6.out.setCell (p := ⟨dx, 1, none⟩) (Or.inr hwd) _
  clear FW6 B6 R6 q1 z1 d0 HRep HB5 R5 FW5 HB4 R4 FW4
  generalize w6.setCell ⟨dx, 1, none⟩ (.slice (some ⟨g6, 0, none⟩) 0 c6) = w7 at *
  have p0 := B7.out.cellAt (i := 0) (v := .slice a 0 c2) rfl
  have p1 := B7.out.cellAt (i := 1) (v := .slice (some ⟨g6, 0, none⟩) 0 c6) rfl
  have p2 := B7.out.cellAt (i := 2) (v := .int .i64 1) rfl
  have p3 := B7.out.cellAt (i := 3) (v := .bool false) rfl
  go_wp2_with (go_at_call 12; refine (lRightNo _ _ _ _ _).mono ?_; rintro e w8 ⟨rfl, f8⟩; have F8 := Lib.hid f8; have R8 := R7.out.fr0 f8; have r0 := R8.cellAt (i := 0) (v := .slice none 0 0) rfl; have r1 := R8.cellAt (i := 1) (v := .slice none 0 0) rfl; have r2 := R8.cellAt (i := 2) (v := .int .i64 0) rfl; have r3 := R8.cellAt (i := 3) (v := .bool false) rfl; have rz := R8.froz; have HR8 := Lib.hid R8; clear f8 R8)
  obtain ⟨hX, hFX⟩ := set4_end (va := .slice none 0 0) (vb := .slice none 0 0) (vl := .int .i64 0) (vf := .bool false) HR8.out
  generalize (((w8.setCell ⟨rx, 0, none⟩ (.slice none 0 0)).setCell ⟨rx, 1, none⟩ (.slice none 0 0)).setCell ⟨rx, 2, none⟩ (.int .i64 0)).setCell ⟨rx, 3, none⟩ (.bool false) = X at *
  have y0 := hX.cellAt (i := 0) (v := .slice none 0 0) rfl
  have y1 := hX.cellAt (i := 1) (v := .slice none 0 0) rfl
  have y2 := hX.cellAt (i := 2) (v := .int .i64 0) rfl
  have y3 := hX.cellAt (i := 3) (v := .bool false) rfl
  refine bodyPost_ret (v := .tuple #[.agg #[.slice none 0 0, .slice none 0 0, .int .i64 0, .bool false], .bool false]) (by simp [results, Tryz.results7, go_sem, y0, y1, y2, y3]) rfl ?_
  have hrx := HRX.out
  exact ⟨rfl, (FW7.out.trans0 F8.out).trans hFX (fun x hx => by simp at hx; right; omega)⟩
end Go.Proofs.YtnnpjjehecbljaaGreatDoor

namespace Go.Proofs.YtnnpjjehecbljaaGreatDoor
open Go.RowKit

theorem run_app_own {P : Program} {w : World} (base : Nat) (t ty e : TypeId) (i : TypeInfo) (z : Value) (size bytes : Nat) (ht : P.underlying t = some (.slice e)) (hi : P.info? e = some i) (hz : i.zero = some z)
    (hsize : i.size = size) (hby : i.bytes = bytes) (hzs : z.cells.size = size) (hsz : 0 < size)
    (v : Value) (n : Nat) (xs : List Value) (hown : w.ownsRow base e size v n xs)
    (a : Addr) (m c : Nat) (news : List Value) (hl : news.length = m * size) (hnews : ∀ j u, news[j]? = some u → w.cell? (a.add j) = some u) (h1 : ∀ u ∈ news, u.oneCell' = true)
    (h63 : n + m ≤ maxLen) (hbytes : (n + m) * bytes ≤ 140737488355328) (hbase : base ≤ w.heap.size) :
    ∃ v' w', (Builtin.append_ #[t, t] ty #[v, .slice (some a) m c]).run P w = .ok v' w' ∧ w'.ownsRow base e size v' (n + m) (xs ++ news) ∧ w.grownBy w' v.ownBlock ∧
      (∀ x, x ∈ v'.ownBlock.toList → x ∈ v.ownBlock.toList ∨ w.heap.size ≤ x) := by
  obtain ⟨v', w', hrun, r1, r2, _⟩ := run_append_own (P := P) (w := w) base t ty e i z size bytes ht hi hz hsize hby hzs hsz v n xs hown a m c news hl hnews h1 h63 hbytes hbase
  refine ⟨v', w', hrun, r1, r2, fun x hx => ?_⟩
  rcases hown.2 with ⟨rfl, rfl⟩ | ⟨g, cap, cur, rfl, hg, hh, hn, hm, hs, htk⟩
  · obtain ⟨v2, w2, hrun2, q1, _⟩ := run_append_own (P := P) (w := w) w.heap.size t ty e i z size bytes ht hi hz hsize hby hzs hsz (.slice none 0 0) 0 [] (World.ownsRow_nil w _ e size) a m c news hl hnews h1 h63 hbytes (Nat.le_refl _)
    rw [hrun] at hrun2
    injection hrun2 with e1 e2
    subst e1; subst e2
    exact .inr ((World.ownsRow.lt q1) x (by simpa using hx)).1
  · by_cases hr : n + m ≤ cap
    · have hfr := run_append_room_cells (P := P) w t ty e i ht hi g 0 n cap a m c news (by rw [hl, hsize]) hnews h1 hr
        (fun j hj => by
          have : n * size + j < cur.size := by
            rw [hs]; have : (n + m) * size ≤ cap * size := Nat.mul_le_mul_right _ hr
            rw [Nat.add_mul] at this; omega
          rw [hsize]; simp [World.cell?, hh, this])
        (fun j _ => by simp [World.frozen?, hh])
      rw [hrun] at hfr
      injection hfr with e1 e2
      subst e1
      exact .inl hx
    · obtain ⟨v2, w2, hrun2, q1, _⟩ := run_append_arg_grows (P := P) w t ty e i z size bytes ht hi hz hsize hby hzs hsz ⟨g, 0, none⟩ n cap xs hown.1 (fun j u hu => World.ownsRow.cells (v := .slice (some ⟨g, 0, none⟩) n cap) hown rfl j u hu) a m c news hl hnews (by omega) h63 hbytes
      rw [hrun] at hrun2
      injection hrun2 with e1 e2
      subst e1; subst e2
      exact .inr ((World.ownsRow.lt q1) x (by simpa using hx)).1

theorem step_app_own {P : Program} {ops : Array Oper} {o : Oper} {a : Act} {w : World} {K : Act → World → Prop} {Q : Exit → Act → World → Prop} {E : Prop}
    (hg : o.guard = none) (s x : Operand) (t : TypeId) (hop : o.op = Op.call { callee := Callee.builtin Builtin.append, args := #[s, x], argTypes := #[t, t] })
    {e : TypeId} {z : Value} {size bytes : Nat} (hT : ElT P t e z size bytes) (v : Value) (n : Nat) (xs : List Value) (hs : a.eval s = v) (hown : w.ownsRow 0 e size v n xs)
    (ad : Addr) (m c : Nat) (news : List Value) (hx : a.eval x = .slice (some ad) m c) (hn : news.length = m * size) (hc : ∀ j u, news[j]? = some u → w.cell? (ad.add j) = some u) (h1c : ∀ u ∈ news, u.oneCell' = true)
    (b1 : n + m ≤ maxLen) (b2 : (n + m) * bytes ≤ 140737488355328)
    (hK : ∀ v' w', Hid (w'.ownsRow 0 e size v' (n + m) (xs ++ news)) → Hid (Fr v.ownBlock.toList w w') → Hid (∀ x, x ∈ v'.ownBlock.toList → x ∈ v.ownBlock.toList ∨ w.heap.size ≤ x) → K (a.put o.dst v') w') :
    if Region.wanted o (yielded ops a.tmps) = true then Oper.wp P o a w K Q else E := by
  have hw : Region.wanted o (yielded ops a.tmps) = true := by simp [Region.wanted, hg]
  rw [if_pos hw]
  obtain ⟨i, hi1, hi2, hi3, hi4⟩ := hT.hi
  obtain ⟨v', w', hrun, r1, r2, r3⟩ := run_app_own (P := P) (w := w) 0 t o.type e i z size bytes hT.ht hi1 hi2 hi3 hi4 hT.hz hT.hs v n xs hown ad m c news hn hc h1c b1 b2 (Nat.zero_le _)
  unfold Oper.wp
  simp [execOp, hop, resolve, invoke, builtin, hs, hx, hrun, Result.andThen]
  exact hK v' w' r1 (Fr.ofGrown r2) r3
end Go.Proofs.YtnnpjjehecbljaaGreatDoor

namespace Go.Proofs.YtnnpjjehecbljaaGreatDoor
open Go.RowKit

/-- A slice of one's own: nil, or a row. -/
def slV (o : Option (Nat × Nat)) (n : Nat) : Value := match o with | none => .slice none 0 0 | some (g, cap) => .slice (some ⟨g, 0, none⟩) n cap
def slH (e : TypeId) (o : Option (Nat × Nat)) (l : List Value) : List Ck := match o with | none => [] | some (g, cap) => [(g, .row e cap l)]
theorem Ck.owns {w : World} {g cap : Nat} {e : TypeId} {l : List Value} (h : Ck.in (g, .row e cap l) w) : w.ownsRow 0 e 1 (.slice (some ⟨g, 0, none⟩) l.length cap) l.length l := by
  obtain ⟨o, h1, cur, rfl, h2, h3, h4, h5⟩ := h
  exact ⟨by simp, Or.inr ⟨g, cap, cur, rfl, Nat.zero_le _, h1, h3, h4, by omega, by rw [Nat.mul_one]; exact h5⟩⟩
theorem Ck.of_owns {w : World} {n : Nat} {v : Value} {e : TypeId} {l : List Value} (h : w.ownsRow 0 e 1 v n l) (hl : l ≠ []) : ∃ g cap, v = .slice (some ⟨g, 0, none⟩) l.length cap ∧ n = l.length ∧ Ck.in (g, .row e cap l) w := by
  obtain ⟨h0, h | ⟨g, cap, cur, rfl, hB, h1, h2, h3, h4, h5⟩⟩ := h
  · exfalso
    have h2 : n = 0 := h.2
    apply hl
    apply List.eq_nil_of_length_eq_zero
    omega
  · have hn : n = l.length := by omega
    subst hn
    exact ⟨g, cap, rfl, rfl, _, h1, cur, rfl, by omega, h2, h3, by rw [Nat.mul_one] at h5; exact h5⟩
theorem run_apS {P : Program} {t e : TypeId} {z : Value} {bytes : Nat} (hT : ElT P t e z 1 bytes) (o : Option (Nat × Nat)) {F : List Nat} {w0 w : World} {H : List Ck} {l : List Value} {u : Value} {vb c : Nat} (ty : TypeId)
    (hS : Sat F w0 (slH e o l ++ H) w) (ho : o = none → l = []) (hv : Blk w vb #[u] e) (h1 : u.oneCell' = true) (h63 : l.length + 1 ≤ maxLen) (hb : (l.length + 1) * bytes ≤ 140737488355328) :
    ∃ g' cap' w', (Builtin.append_ #[t, t] ty #[slV o l.length, .slice (some ⟨vb, 0, none⟩) 1 c]).run P w = .ok (.slice (some ⟨g', 0, none⟩) (l.length + 1) cap') w' ∧ Sat F w0 ((g', .row e cap' (l ++ [u])) :: H) w' := by
  obtain ⟨i, hi1, hi2, hi3, hi4⟩ := hT.hi
  have hown : w.ownsRow 0 e 1 (slV o l.length) l.length l := by
    cases o with
    | none => rw [ho rfl]; exact World.ownsRow_nil w 0 e 1
    | some x => exact Ck.owns (hS.all _ (List.mem_append.2 (.inl (List.mem_singleton.2 rfl))))
  obtain ⟨v', w', hrun, r1, r2, r3⟩ := run_app_own (P := P) (w := w) 0 t ty e i z 1 bytes hT.ht hi1 hi2 hi3 hi4 hT.hz hT.hs (slV o l.length) l.length l hown ⟨vb, 0, none⟩ 1 c [u] rfl
    (fun j v hj => by
      cases j with
      | zero => have : u = v := by simpa using hj
                subst this; exact hv.cellAt rfl
      | succ j => simp at hj) (fun x hx => by simp at hx; subst hx; exact h1) h63 hb (Nat.zero_le _)
  obtain ⟨g', cap', rfl, hn, hin⟩ := Ck.of_owns r1 (by simp)
  refine ⟨g', cap', w', by rw [hrun]; simp, ?_⟩
  have hf : Fr (slV o l.length).ownBlock.toList w w' := Fr.ofGrown r2
  have hg := r3 g' (by simp [Value.ownBlock])
  have hk : Sat ((slH e o l).map (·.1)) w [(g', .row e cap' (l ++ [u]))] w' := by
    have e1 : (slH e o l).map (·.1) = (slV o l.length).ownBlock.toList := by cases o <;> rfl
    rw [e1]
    exact Sat.one hf hin hg
  exact Sat.trans hS hk
/-- 'append(s, x)' in a walk. -/
theorem wpList_apS {P : Program} {ops : Array Oper} {Q : Exit → Act → World → Prop} {rest : List Oper} {a : Act} {w : World} {d : Option Tmp} {ty : TypeId} {pos : String} {af : Array Edge}
    {t e : TypeId} {z : Value} {bytes : Nat} (hT : ElT P t e z 1 bytes) (s x : Operand) (o : Option (Nat × Nat)) {F : List Nat} {w0 : World} {H : List Ck} {l : List Value} {u : Value} {vb c : Nat}
    (hS : Sat F w0 (slH e o l ++ H) w) (ho : o = none → l = []) (hs : a.eval s = slV o l.length) (hx : a.eval x = .slice (some ⟨vb, 0, none⟩) 1 c) (hv : Blk w vb #[u] e) (h1 : u.oneCell' = true) (h63 : l.length + 1 ≤ maxLen) (hb : (l.length + 1) * bytes ≤ 140737488355328)
    (h : ∀ g' cap' w', Sat F w0 ((g', .row e cap' (l ++ [u])) :: H) w' → wpList P ops Q rest (a.put d (.slice (some ⟨g', 0, none⟩) (l.length + 1) cap')) w') :
    wpList P ops Q (⟨d, .call { callee := .builtin .append, args := #[s, x], argTypes := #[t, t] }, ty, pos, af, none⟩ :: rest) a w := by
  obtain ⟨g', cap', w', hrun, h2⟩ := run_apS (c := c) hT o ty hS ho hv h1 h63 hb
  refine wpList_run rfl (v := .slice (some ⟨g', 0, none⟩) (l.length + 1) cap') (w1 := w') ?_ (h g' cap' w' h2)
  generalize a.eval = ρ at hs hx
  simp [execOp, resolve, invoke, builtin, hs, hx, hrun, Result.andThen]
/-- .. and as a step of a region that draws. -/
theorem step_apS {P : Program} {ops : Array Oper} {op : Oper} {a : Act} {w : World} {K : Act → World → Prop} {Q : Exit → Act → World → Prop} {E : Prop}
    (hg : op.guard = none) (s x : Operand) (t : TypeId) (hop : op.op = Op.call { callee := Callee.builtin Builtin.append, args := #[s, x], argTypes := #[t, t] })
    {e : TypeId} {z : Value} {bytes : Nat} (hT : ElT P t e z 1 bytes) (o : Option (Nat × Nat)) {F : List Nat} {w0 : World} {H : List Ck} {l : List Value} {u : Value} {vb c : Nat}
    (hS : Sat F w0 (slH e o l ++ H) w) (ho : o = none → l = []) (hs : a.eval s = slV o l.length) (hx : a.eval x = .slice (some ⟨vb, 0, none⟩) 1 c) (hv : Blk w vb #[u] e) (h1 : u.oneCell' = true) (h63 : l.length + 1 ≤ maxLen) (hb : (l.length + 1) * bytes ≤ 140737488355328)
    (h : ∀ g' cap' w', Sat F w0 ((g', .row e cap' (l ++ [u])) :: H) w' → K (a.put op.dst (.slice (some ⟨g', 0, none⟩) (l.length + 1) cap')) w') :
    if Region.wanted op (yielded ops a.tmps) = true then Oper.wp P op a w K Q else E := by
  have hw : Region.wanted op (yielded ops a.tmps) = true := by simp [Region.wanted, hg]
  rw [if_pos hw]
  obtain ⟨g', cap', w', hrun, h2⟩ := run_apS (c := c) hT o op.type hS ho hv h1 h63 hb
  unfold Oper.wp
  simp [execOp, hop, resolve, invoke, builtin, hs, hx, hrun, Result.andThen]
  exact h g' cap' w' h2
end Go.Proofs.YtnnpjjehecbljaaGreatDoor

namespace Go.Proofs.YtnnpjjehecbljaaGreatDoor
open Go.RowKit

set_option maxRecDepth 100000 in
/-- What Apply answers, of a right config. -/
theorem lApply (gm cm gh ch : Nat) (c : Cfg) (e : Ent) (w : World) (h : Cf w gm cm gh ch c) (hok : c.ok = true) (he : e.Fits) :
    Calls Tryz.prog 11 #[.agg (cfC gm cm gh ch c), .agg e.cells] w fun r w' => AppPost w (tellC c e) r w' := by
  obtain ⟨h1, h2, h3, h4, h5, h6, h7⟩ := (Cfg.ok_iff c).1 hok
  have hs := rightL_sorted h3 h7
  cases heok : e.ok with
  | false =>
    have : tellC c e = (c, 1) := by unfold tellC applyOf; rw [heok, if_pos (Or.inr rfl)]
    rw [this]
    exact lApplyArg gm cm gh ch c e w h hok he heok
  | true =>
    have hne : ¬ (c.ok = false ∨ e.ok = false) := by rw [hok, heok]; simp
    have hap := apply_err c e.ok e.kind e.node e.level
    by_cases k5 : e.kind = 5
    · have ht : tellC c e = addOf c e.node := by unfold tellC applyOf; rw [if_neg hne, if_pos k5]
      exact lApplyGo 26 (tellC c e) gm cm gh ch c e w h hok he heok (by rw [k5]; rfl) (fun _ _ => rfl) (fun B dx w hL => by rw [ht]; exact lAddT B dx c e w hL hs h3 (by omega)) hap
    by_cases k6 : e.kind = 6
    · have ht : tellC c e = removeOf c e.node := by unfold tellC applyOf; rw [if_neg hne, if_neg k5, if_pos k6]
      exact lApplyGo 27 (tellC c e) gm cm gh ch c e w h hok he heok (by rw [k6]; rfl) (fun _ _ => rfl) (fun B dx w hL => by rw [ht]; exact lRemove B dx c e w hL hs h3 (by omega)) hap
    by_cases k7 : e.kind = 7
    · have ht : tellC c e = registerOf c e.node e.level := by unfold tellC applyOf; rw [if_neg hne, if_neg k5, if_neg k6, if_pos k7]
      exact lApplyGo 28 (tellC c e) gm cm gh ch c e w h hok he heok (by rw [k7]; rfl) (fun _ _ => rfl) (fun B dx w hL => by rw [ht]; exact lRegister B dx c e w hL hs h3 (by omega)) hap
    by_cases k8 : e.kind = 8
    · have ht : tellC c e = upgradeOf c := by unfold tellC applyOf; rw [if_neg hne, if_neg k5, if_neg k6, if_neg k7, if_pos k8]
      exact lApplyGo 29 (tellC c e) gm cm gh ch c e w h hok he heok (by rw [k8]; rfl) (fun _ _ => rfl) (fun B dx w hL => by rw [ht]; exact lUpgrade B dx c e w hL (by omega)) hap
    by_cases k9 : e.kind = 9
    · have ht : tellC c e = lowerOf c := by unfold tellC applyOf; rw [if_neg hne, if_neg k5, if_neg k6, if_neg k7, if_neg k8, if_pos k9]
      exact lApplyGo 30 (tellC c e) gm cm gh ch c e w h hok he heok (by rw [k9]; rfl) (fun _ _ => rfl) (fun B dx w hL => by rw [ht]; exact lLower B dx c e w hL) hap
    by_cases k10 : e.kind = 10
    · have ht : tellC c e = finaliseOf c := by unfold tellC applyOf; rw [if_neg hne, if_neg k5, if_neg k6, if_neg k7, if_neg k8, if_neg k9, if_pos k10]
      exact lApplyGo 31 (tellC c e) gm cm gh ch c e w h hok he heok (by rw [k10]; rfl) (fun _ _ => rfl) (fun B dx w hL => by rw [ht]; exact lFinal B dx c e w hL) hap
    · have ht : tellC c e = (c, 0) := by unfold tellC applyOf; rw [if_neg hne, if_neg k5, if_neg k6, if_neg k7, if_neg k8, if_neg k9, if_neg k10]
      rw [ht]
      refine lApplyNo gm cm gh ch c e w h hok he heok ?_
      unfold doesL imLook
      simp [Ne.symm k5, Ne.symm k6, Ne.symm k7, Ne.symm k8, Ne.symm k9, Ne.symm k10, k5, k6, k7, k8, k9, k10]
/-- A config of a call's own, as chunks. -/
abbrev cfCk (x : Nat × Nat × Nat × Nat) (c : Cfg) : List Ck := [(x.1, ivCh 3 x.2.1 c.M), (x.2.2.1, ivCh 3 x.2.2.2 c.G)]
theorem Cf.sat {w w' : World} {gm cm gh ch : Nat} {c : Cfg} (h1 : Cf w' gm cm gh ch c) (h2 : w.heap.size ≤ gm) (h3 : w.heap.size ≤ gh) (h4 : Fr [] w w') : Sat [] w (cfCk (gm, cm, gh, ch) c) w' := by
  refine ⟨h4, ?_, ?_, ?_⟩
  · have := h1.2.2; simp; exact this
  · intro d hd
    simp only [cfCk, List.mem_cons, List.not_mem_nil, or_false] at hd
    rcases hd with rfl | rfl
    · exact Iv.ck.1 h1.1
    · exact Iv.ck.1 h1.2.1
  · intro d hd
    simp only [cfCk, List.mem_cons, List.not_mem_nil, or_false] at hd
    rcases hd with rfl | rfl
    · exact .inr h2
    · exact .inr h3
/-- .. as a step over chunks. -/
theorem cApply {F : List Nat} {w0 w : World} {H : List Ck} {Q : Ending → World → Prop} (hS : Sat F w0 H w) {gm cm gh ch : Nat} {c : Cfg} {e : Ent} (h : Cf w gm cm gh ch c) (hok : c.ok = true) (he : e.Fits) {a : Cfg × Int} (ha : tellC c e = a)
    (k : ∀ (x : Nat × Nat × Nat × Nat) w', Sat F w0 ((x.1, ivCh 3 x.2.1 a.1.M) :: (x.2.2.1, ivCh 3 x.2.2.2 a.1.G) :: H) w' → Q (.returned (.tuple #[.agg (cfC x.1 x.2.1 x.2.2.1 x.2.2.2 a.1), .int .i64 a.2])) w') :
    Calls Tryz.prog 11 #[.agg (cfC gm cm gh ch c), .agg e.cells] w Q := by
  subst ha
  refine (lApply gm cm gh ch c e w h hok he).mono ?_
  rintro r w' ⟨gm', cm', gh', ch', rfl, h1, h2, h3, h4⟩
  exact k (gm', cm', gh', ch') w' (hS.trans0 (h1.sat h2 h3 h4))
theorem cNew {F : List Nat} {w0 w : World} {H : List Ck} {Q : Ending → World → Prop} (hS : Sat F w0 H w) {g cap n : Nat} {L : List Int} (h : Ck.in (g, ivCh 3 cap L) w) (hne : L ≠ []) (h4 : L.length ≤ 4096) (hok : (newC L).ok = true) {c : Cfg} (hc : newC L = c) (hn : n = L.length)
    (k : ∀ (x : Nat × Nat × Nat × Nat) w', Sat F w0 ((x.1, ivCh 3 x.2.1 c.M) :: (x.2.2.1, ivCh 3 x.2.2.2 c.G) :: H) w' → Q (.returned (.tuple #[.agg (cfC x.1 x.2.1 x.2.2.1 x.2.2.2 c), .bool true])) w') :
    Calls Tryz.prog 7 #[.slice (some ⟨g, 0, none⟩) n cap] w Q := by
  subst hc
  subst hn
  refine (lNew g cap L w (Iv.ck.2 h) hne h4 hok).mono ?_
  rintro r w' ⟨gm', cm', gh', ch', rfl, h1, h2, h3, h4⟩
  exact k (gm', cm', gh', ch') w' (hS.trans0 (h1.sat h2 h3 h4))
/-- Two chunks are a config. -/
theorem Sat.cf {F : List Nat} {w0 w : World} {H : List Ck} (hS : Sat F w0 H w) (n m : Nat) {gm cm gh ch : Nat} {c : Cfg} (hn : H[n]? = some (gm, ivCh 3 cm c.M)) (hm : H[m]? = some (gh, ivCh 3 ch c.G)) (hnm : n ≠ m) : Cf w gm cm gh ch c :=
  ⟨Iv.ck.2 (hS.mem n hn), Iv.ck.2 (hS.mem m hm), hS.ne n m hn hm hnm⟩

/-- The law's some, as far as it has come. -/
def someP (b k : Nat) : List Int := (1 + (b / 128 : Nat) : Int) :: ((List.range k).filter (fun i => b / 2 ^ i % 2 == 1)).map (fun i => ((i : Nat) : Int) + 1)
theorem someP_len (b k : Nat) : (someP b k).length ≤ k + 1 := by
  unfold someP
  have := List.length_filter_le (fun i => b / 2 ^ i % 2 == 1) (List.range k)
  simp at this ⊢
  exact this
theorem someP_yes {b k : Nat} (h : b / 2 ^ k % 2 = 1) : someP b k ++ [((k : Int) + 1)] = someP b (k + 1) := by
  unfold someP
  rw [List.range_succ, List.filter_append, List.map_append]
  simp [h]
theorem someP_no {b k : Nat} (h : ¬ b / 2 ^ k % 2 = 1) : someP b k = someP b (k + 1) := by
  unfold someP
  rw [List.range_succ, List.filter_append, List.map_append]
  simp [h]

theorem bitI (b k : Nat) : ((b : Int) / 2 ^ k).tmod 2 = ((b / 2 ^ k % 2 : Nat) : Int) := by
  have h : ((b : Int) / 2 ^ k) = ((b / 2 ^ k : Nat) : Int) := by simp
  rw [h, Int.tmod_eq_emod_of_nonneg (Int.natCast_nonneg _)]
  simp

set_option maxHeartbeats 4000000 in
set_option maxRecDepth 100000 in
theorem lSome (b : Nat) (hb : b < 256) (w : World) :
    Calls Tryz.prog 8 #[.int .u8 (b : Nat)] w fun e w' => ∃ x : Nat × Nat, e = .returned (.slice (some ⟨x.1, 0, none⟩) (someL b).length x.2) ∧ Sat [] w [(x.1, ivCh 3 x.2 (someL b))] w' := by
  have hS := Sat.refl [] w
  go_enter Tryz.func8, Tryz.ntmps8
  go_wp2_with fail
  have hS := hS.new _ rfl #[.int .i64 (1 + (b : Int) / 128)] 3
  generalize w.heap.size = g0 at *
  generalize w.alloc (.cells #[.int .i64 (1 + (b : Int) / 128)] 3) = w1 at *
  go_loopw [3, 4] (fun v i wr => ∃ (k : Nat) (x : Nat × Nat), k ≤ 7 ∧ i = .int .i64 k ∧ v = .slice (some ⟨x.1, 0, none⟩) (someP b k).length x.2 ∧ Hid (Sat [] w [(x.1, ivCh 3 x.2 (someP b k))] wr)) (fun _ i _ => 7 - (intOf i).toNat)
  case atStart =>
    refine ⟨0, (g0, 1), by omega, rfl, rfl, ?_⟩
    have h1 : someP b 0 = [1 + (b : Int) / 128] := by unfold someP; simp
    show Sat [] w [(g0, ivCh 3 1 (someP b 0))] w1
    rw [h1]
    exact hS.asRow (by unfold maxLen; simp)
  case round =>
    clear hS
    obtain ⟨k, x, hk, rfl, rfl, hS⟩ := hrel
    have hS := hS.out
    have hlen := someP_len b k
    have hb1 := bitI b k
    by_cases hlt : k < 7
    · by_cases hbit : b / 2 ^ k % 2 = 1
      · have HY := Lib.hid (someP_yes hbit)
        rw [hbit] at hb1
        clear hbit
        go_wp2_with (at_builtin; refine wpList_apS Tryz.elI (.tmp 19) (.tmp 22) (some (x.1, x.2)) (l := (someP b k).map (Value.int .i64)) (u := .int .i64 ((k : Int) + 1)) (vb := wr.heap.size) ((hS.new _ rfl #[.int .i64 ((k : Int) + 1)] 3).perm (List.Perm.swap _ _ _)) (fun h => by cases h) (by rw [List.length_map]; rfl) rfl (Blk.new wr _ _) rfl (by rw [List.length_map]; unfold maxLen; omega) (by rw [List.length_map]; omega) ?_; intro g1 c1 w2 hS; rw [List.length_map])
        go_roundw
        case rel =>
          refine ⟨k + 1, (g1, c1), by omega, by first | rfl | go_num, ?_, ?_⟩
          · have := congrArg List.length HY.out
            rw [List.length_append] at this
            rw [← this]
            rfl
          · show Sat [] w [(g1, ivCh 3 c1 (someP b (k + 1)))] w2
            rw [← HY.out]
            unfold ivCh
            rw [List.map_append]
            exact hS.sub (.cons_cons _ (List.nil_sublist _))
        case measure => simp [intOf]; omega
      · have HNo := Lib.hid (someP_no hbit)
        have hb0 : b / 2 ^ k % 2 = 0 := by omega
        rw [hb0] at hb1
        clear hbit hb0
        go_wp2_with fail
        go_roundw
        case rel => exact ⟨k + 1, x, by omega, by first | rfl | go_num, by rw [HNo.out], by rw [← HNo.out]; exact hS⟩
        case measure => simp [intOf]; omega
    · obtain rfl : k = 7 := by omega
      go_wp2_with fail
      go_ret
      exact ⟨x, rfl, hS⟩
end Go.Proofs.YtnnpjjehecbljaaGreatDoor

namespace Go.Proofs.YtnnpjjehecbljaaGreatDoor

theorem foldl_take_succ {α : Type} (f : α → UInt8 → α) (x : α) (l : List UInt8) (k : Nat) (h : k < l.length) : (l.take (k + 1)).foldl f x = f ((l.take k).foldl f x) (l.getD k 0) := by
  rw [List.take_succ_eq_append_getElem h, List.foldl_append, List.getD_eq_getElem?_getD, List.getElem?_eq_getElem h]; rfl

/-- A text of bytes. -/
def bs (l : List UInt8) : ByteArray := ⟨l.toArray⟩
theorem bs_append (a b : List UInt8) : bs a ++ bs b = bs (a ++ b) := by
  apply ByteArray.ext
  simp [bs]
theorem bs_list (l : List UInt8) : (bs l).data.toList = l := by simp [bs]
theorem bs_of (s : ByteArray) : bs s.data.toList = s := by
  apply ByteArray.ext
  simp [bs]
theorem bs_size (l : List UInt8) : (bs l).size = l.length := by
  show l.toArray.size = _
  simp
theorem of_bs (s : ByteArray) : ∃ l, s = bs l := ⟨s.data.toList, (bs_of s).symm⟩

/-! ### numbers of a fixed size, the most significant byte first -/
def beStep (a : Nat) (b : UInt8) : Nat := (a * 256 + b.toNat) % 18446744073709551616
def beNum (n : Nat) (l : List UInt8) : Nat := l.foldl beStep n

theorem beStep_lt (a : Nat) (b : UInt8) : beStep a b < 18446744073709551616 := Nat.mod_lt _ (by decide)
theorem beNum_lt (l : List UInt8) : ∀ {n : Nat}, n < 18446744073709551616 → beNum n l < 18446744073709551616 := by
  induction l with
  | nil => exact fun h => h
  | cons c l ih => exact fun _ => ih (beStep_lt _ _)
theorem beNum_succ (n : Nat) (l : List UInt8) (k : Nat) (h : k < l.length) : beNum n (l.take (k + 1)) = beStep (beNum n (l.take k)) (l.getD k 0) := foldl_take_succ beStep n l k h

theorem or_add_nat (a b i : Nat) (ha : a % 2 ^ i = 0) (hb : b < 2 ^ i) : a ||| b = a + b := by
  have hq : a = 2 ^ i * (a / 2 ^ i) := by have := Nat.div_add_mod a (2 ^ i); omega
  rw [hq, ← Nat.two_pow_add_eq_or_of_lt hb]

/-- As the program has it. -/
theorem beStep_bits {q : Int} {a : Nat} (hq : q = (a : Int)) (b : UInt8) {d : Int} (hd : d = (b.toNat : Int)) :
    bits BinOp.or IntKind.u64 (IntKind.u64.wrap (q * 256)) (IntKind.u64.wrap d) = ((beStep a b : Nat) : Int) := by
  subst hq hd
  have hb := b.toNat_lt
  have h1 : IntKind.u64.wrap ((a : Int) * 256) = ((a * 256 % 18446744073709551616 : Nat) : Int) := by rw [IntKind.wrap_u64]; omega
  have h2 : IntKind.u64.wrap ((b.toNat : Nat) : Int) = ((b.toNat : Nat) : Int) := by rw [IntKind.wrap_u64]; omega
  rw [h1, h2, bits_or_u64_nat _ _ (Nat.mod_lt _ (by decide)) (by omega), or_add_nat _ _ 8 (by omega) (by omega)]
  unfold beStep
  omega

/-! ### numbers of seven bits a byte -/
/-- A number's bytes, seven bits each, the lowest ones first. -/
def putF : Nat → Nat → List UInt8
  | 0, _ => []
  | f + 1, n => if n < 128 then [UInt8.ofNat n] else UInt8.ofNat (n % 128 + 128) :: putF f (n / 128)
def putL (n : Nat) : List UInt8 := putF 10 n

theorem putF_length (f : Nat) : ∀ n, (putF f n).length ≤ f := by
  induction f with
  | zero => intro n; simp [putF]
  | succ f ih => intro n; rw [putF]; split; simp; simpa using ih _
theorem putL_length (n : Nat) : (putL n).length ≤ 10 := putF_length 10 n

def vS (n c k : Nat) : Nat := n ||| (c % 128 * 2 ^ (7 * k) % 18446744073709551616)

theorem vS_lt {n c k : Nat} (hn : n < 18446744073709551616) : vS n c k < 18446744073709551616 := by
  have := Nat.or_lt_two_pow (n := 64) (x := n) (y := c % 128 * 2 ^ (7 * k) % 18446744073709551616) (by simpa using hn) (by simpa using Nat.mod_lt _ (by decide))
  simpa [vS] using this

/-- The number that stands at the head, and how many bytes it has. -/
def varGo : List UInt8 → Nat → Nat → Option (Nat × Nat)
  | [], _, _ => none
  | c :: rest, i, n =>
    if 10 ≤ i then none
    else if 128 ≤ c.toNat then varGo rest (i + 1) (vS n c.toNat i)
    else if (0 < i ∧ c.toNat = 0) ∨ (i = 9 ∧ 1 < c.toNat) then none else some (vS n c.toNat i, i + 1)

theorem andNot128 : ∀ r : Fin 256, bits BinOp.andNot IntKind.u8 (r.val : Int) 128 = (r.val : Int) % 128 := by decide +kernel

theorem andNot_u8 {c : Nat} (h : c < 256) : bits BinOp.andNot IntKind.u8 (c : Int) 128 = ((c % 128 : Nat) : Int) := by
  have h1 : bits BinOp.andNot IntKind.u8 (c : Int) 128 = (c : Int) % 128 := andNot128 ⟨c, h⟩
  rw [h1]; omega

theorem vS_bits {q : Int} {n c k : Nat} (hq : q = (n : Int)) (hn : n < 18446744073709551616) (hc : c < 256) :
    bits BinOp.or IntKind.u64 q (IntKind.u64.wrap (IntKind.u64.wrap (bits BinOp.andNot IntKind.u8 (c : Int) 128) * 2 ^ (7 * k))) = ((vS n c k : Nat) : Int) := by
  subst hq
  rw [andNot_u8 hc]
  have h1 : IntKind.u64.wrap (((c % 128 : Nat) : Int)) = ((c % 128 : Nat) : Int) := by rw [IntKind.wrap_u64]; omega
  rw [h1, IntKind.wrap_u64]
  have h2 : ((c % 128 : Nat) : Int) * 2 ^ (7 * k) % 18446744073709551616 = ((c % 128 * 2 ^ (7 * k) % 18446744073709551616 : Nat) : Int) := by simp
  rw [h2, bits_or_u64_nat _ _ hn (Nat.mod_lt _ (by decide))]
  rfl

/-- What bytes stand for. -/
def vval : List UInt8 → Nat
  | [] => 0
  | c :: r => c.toNat % 128 + 128 * vval r

theorem vval_snoc (l : List UInt8) (c : UInt8) : vval (l ++ [c]) = vval l + c.toNat % 128 * 128 ^ l.length := by
  induction l with
  | nil => simp [vval]
  | cons a l ih =>
    rw [List.cons_append, vval, ih, vval, List.length_cons, Nat.pow_succ]
    have : 128 * (c.toNat % 128 * 128 ^ l.length) = c.toNat % 128 * (128 ^ l.length * 128) := by
      rw [Nat.mul_comm 128, Nat.mul_assoc]
    rw [Nat.mul_add, this]; omega

theorem vval_lt (l : List UInt8) : vval l < 128 ^ l.length := by
  induction l with
  | nil => simp [vval]
  | cons a l ih =>
    rw [vval, List.length_cons, Nat.pow_succ]
    omega

theorem vval_put (f : Nat) : ∀ n, n < 128 ^ f → vval (putF f n) = n := by
  induction f with
  | zero => intro n h; simp at h; subst h; rfl
  | succ f ih =>
    intro n h
    rw [putF]
    split
    · simp [vval]; omega
    · rw [vval, ih _ (by rw [Nat.pow_succ] at h; omega)]
      simp
      omega

/-- A number's own bytes: the last one alone is below 128; it is not 0, or it is alone. -/
inductive Own : List UInt8 → Prop
  | last (c : UInt8) : c.toNat < 128 → Own [c]
  | more (c : UInt8) (r : List UInt8) : 128 ≤ c.toNat → Own r → vval r ≠ 0 → Own (c :: r)

theorem own_put (f : Nat) : ∀ n, n < 128 ^ (f + 1) → Own (putF (f + 1) n) := by
  induction f with
  | zero => intro n h; rw [putF, if_pos (by omega)]; exact .last _ (by simp; omega)
  | succ f ih =>
    intro n h
    rw [putF]
    split
    · exact .last _ (by simp; omega)
    · have hd : n / 128 < 128 ^ (f + 1) := by rw [Nat.pow_succ] at h; omega
      exact .more _ _ (by simp; omega) (ih _ hd) (by rw [vval_put _ _ hd]; omega)

theorem put_own {l : List UInt8} (h : Own l) : ∀ f, l.length ≤ f → putF f (vval l) = l := by
  induction h with
  | last c hc =>
    intro f hf
    obtain ⟨f, rfl⟩ : ∃ m, f = m + 1 := ⟨f - 1, by simp at hf; omega⟩
    have : vval [c] = c.toNat := by simp [vval]; omega
    rw [this, putF, if_pos hc]; simp
  | more c r hc _ hv ih =>
    intro f hf
    obtain ⟨f, rfl⟩ : ∃ m, f = m + 1 := ⟨f - 1, by simp at hf; omega⟩
    have hlt := c.toNat_lt
    rw [putF, if_neg (by rw [vval]; omega)]
    have h1 : vval (c :: r) % 128 + 128 = c.toNat := by rw [vval]; omega
    have h2 : vval (c :: r) / 128 = vval r := by rw [vval]; omega
    rw [h1, h2, ih f (by simpa using hf)]; simp

theorem Own.vval_zero {l : List UInt8} (h : Own l) (hv : vval l = 0) : l.length = 1 := by
  cases h with
  | last c hc => rfl
  | more c r hc hr hv' => rw [vval] at hv; omega

/-- Bytes of 128 and more, and one below it behind them. -/
theorem own_iff (l : List UInt8) (c : UInt8) (hl : ∀ b ∈ l, 128 ≤ b.toNat) (hc : c.toNat < 128) : Own (l ++ [c]) ↔ (l = [] ∨ c.toNat ≠ 0) := by
  induction l with
  | nil => simp; exact .last c hc
  | cons a l ih =>
    have ih' := ih (fun b hb => hl b (by simp [hb]))
    constructor
    · intro h
      refine .inr ?_
      rw [List.cons_append] at h
      generalize hm : l ++ [c] = m at *
      cases h with
      | last _ h => simp at hm
      | more _ _ h1 h2 h3 =>
        rcases ih'.1 h2 with h4 | h4
        · subst h4; intro h5; apply h3; rw [← hm]; simp [vval, h5]
        · exact h4
    · intro h
      rcases h with h | h
      · cases h
      · have h1 := ih'.2 (.inr h)
        refine .more a _ (hl a (by simp)) h1 ?_
        show vval (l ++ [c]) ≠ 0
        rw [vval_snoc]
        have : 0 < c.toNat % 128 * 128 ^ l.length := Nat.mul_pos (by omega) (Nat.pow_pos (by decide))
        omega

theorem pow128 (k : Nat) : (2 : Nat) ^ (7 * k) = 128 ^ k := by rw [Nat.pow_mul]

/-- One step, as numbers. -/
theorem vS_val {l : List UInt8} {c : UInt8} (hl : l.length ≤ 9) : vS (vval l) c.toNat l.length = vval (l ++ [c]) % 18446744073709551616 := by
  have h1 := vval_lt l
  rw [vval_snoc, vS, pow128]
  by_cases h9 : l.length ≤ 8
  · have h2 : (128 : Nat) ^ l.length ≤ 128 ^ 8 := Nat.pow_le_pow_right (by decide) h9
    have h3 : c.toNat % 128 * 128 ^ l.length ≤ 127 * 128 ^ l.length := Nat.mul_le_mul_right _ (by omega)
    have h4 : (128 : Nat) ^ 8 = 72057594037927936 := by decide
    have h5 : c.toNat % 128 * 128 ^ l.length % 18446744073709551616 = c.toNat % 128 * 128 ^ l.length := Nat.mod_eq_of_lt (by omega)
    rw [h5, Nat.or_comm, or_add_nat _ _ (7 * l.length) (by rw [pow128]; exact Nat.mul_mod_left _ _) (by rw [pow128]; exact h1)]
    generalize c.toNat % 128 * 128 ^ l.length = z at *
    omega
  · have e : l.length = 9 := by omega
    rw [e] at h1 ⊢
    have h4 : (128 : Nat) ^ 9 = 9223372036854775808 := by decide
    rw [h4] at h1 ⊢
    rw [Nat.or_comm, or_add_nat _ _ 63 (by omega) (by omega)]
    omega

/-- The reference's test at the last byte says just what the program's says. -/
theorem put_test {l : List UInt8} {c : UInt8} (hl : l.length ≤ 9) (ha : ∀ b ∈ l, 128 ≤ b.toNat) (hc : c.toNat < 128) :
    putL (vS (vval l) c.toNat l.length) = l ++ [c] ↔ ¬ ((0 < l.length ∧ c.toNat = 0) ∨ (l.length = 9 ∧ 1 < c.toNat)) := by
  rw [vS_val hl]
  have hlen : (l ++ [c]).length = l.length + 1 := by simp
  have h10 : (18446744073709551616 : Nat) ≤ 128 ^ 10 := by decide
  constructor
  · intro h hbad
    have hmod : vval (l ++ [c]) % 18446744073709551616 < 18446744073709551616 := Nat.mod_lt _ (by decide)
    have hown := own_put 9 (vval (l ++ [c]) % 18446744073709551616) (by omega)
    rw [show putF (9 + 1) _ = _ from h] at hown
    rcases hbad with ⟨h1, h2⟩ | ⟨h1, h2⟩
    · rcases (own_iff l c ha hc).1 hown with h3 | h3
      · subst h3; simp at h1
      · exact h3 h2
    · have hv := vval_put 10 (vval (l ++ [c]) % 18446744073709551616) (by omega)
      rw [show putF 10 _ = _ from h, vval_snoc, h1] at hv
      have h4 : (128 : Nat) ^ 9 = 9223372036854775808 := by decide
      rw [h4] at hv
      rw [Nat.mod_eq_of_lt hc] at hv
      omega
  · intro h
    have hown : Own (l ++ [c]) := (own_iff l c ha hc).2 (by
      by_cases h1 : l = []
      · exact .inl h1
      · refine .inr fun h2 => h (.inl ⟨?_, h2⟩)
        rcases l with _ | ⟨a, l⟩
        · exact absurd rfl h1
        · simp)
    have hlt : vval (l ++ [c]) < 18446744073709551616 := by
      have h1 := vval_lt l
      rw [vval_snoc]
      by_cases h9 : l.length ≤ 8
      · have h2 : (128 : Nat) ^ l.length ≤ 128 ^ 8 := Nat.pow_le_pow_right (by decide) h9
        have h3 : c.toNat % 128 * 128 ^ l.length ≤ 127 * 128 ^ l.length := Nat.mul_le_mul_right _ (by omega)
        have h4 : (128 : Nat) ^ 8 = 72057594037927936 := by decide
        omega
      · have e : l.length = 9 := by omega
        rw [e] at h1 ⊢
        have h4 : (128 : Nat) ^ 9 = 9223372036854775808 := by decide
        rw [h4] at h1 ⊢
        have : c.toNat ≤ 1 := by
          rcases Nat.lt_or_ge 1 c.toNat with h5 | h5
          · exact absurd (.inr ⟨e, h5⟩) h
          · exact h5
        omega
    rw [Nat.mod_eq_of_lt hlt]
    exact put_own hown 10 (by rw [hlen]; omega)

end Go.Proofs.YtnnpjjehecbljaaGreatDoor

namespace Go.Proofs.YtnnpjjehecbljaaGreatDoor
open Go.RowKit

/-- A number read: of what is left, and whether it is bad. -/
def varL (st : List UInt8 × Bool) : Int × (List UInt8 × Bool) :=
  match varGo st.1 0 0 with
  | some (n, k) => ((n : Int), (st.1.drop k, st.2))
  | none => (0, ([], true))
/-- A small number read: what is beyond 7 makes it bad. -/
def smL (st : List UInt8 × Bool) : Int × (List UInt8 × Bool) :=
  if (varL st).1 ≤ 7 then varL st else ((varL st).1, ([], true))
def memsL : Nat → List UInt8 × Bool → List Int × List Int × (List UInt8 × Bool)
  | 0, st => ([], [], st)
  | n + 1, st => if st.2 = true then ([], [], st) else ((smL st).1 :: (memsL n (smL (smL st).2).2).1, (smL (smL st).2).1 :: (memsL n (smL (smL st).2).2).2.1, (memsL n (smL (smL st).2).2).2.2)
def rawC (l : List UInt8) : Cfg × (List UInt8 × Bool) × Int :=
  (⟨(memsL (smL (l, false)).1.toNat (smL (l, false)).2).1, (memsL (smL (l, false)).1.toNat (smL (l, false)).2).2.1, (smL (memsL (smL (l, false)).1.toNat (smL (l, false)).2).2.2).1,
    (smL (smL (memsL (smL (l, false)).1.toNat (smL (l, false)).2).2.2).2).1 == 1⟩,
   (smL (smL (memsL (smL (l, false)).1.toNat (smL (l, false)).2).2.2).2).2, (smL (smL (memsL (smL (l, false)).1.toNat (smL (l, false)).2).2.2).2).1)
def getC (l : List UInt8) : Cfg × Bool :=
  if (rawC l).2.1.2 = true ∨ 0 < (rawC l).2.1.1.length ∨ 1 < (rawC l).2.2 ∨ (rawC l).1.ok = false then (noCfg, false) else ((rawC l).1, true)

def byteI (n : Int) : UInt8 := UInt8.ofNat n.toNat
def pairsL : List Int → List Int → List UInt8
  | m :: M, g :: G => byteI m :: byteI g :: pairsL M G
  | _, _ => []
def putC (c : Cfg) : List UInt8 := byteI (c.M.length : Nat) :: (pairsL c.M c.G ++ [byteI c.lvl, byteI (if c.fin = true then 1 else 0)])

theorem varGo_small {b : UInt8} (h : b.toNat < 128) (t : List UInt8) : varGo (b :: t) 0 0 = some (b.toNat, 1) := by
  rw [varGo, if_neg (by decide), if_neg (by omega), if_neg (by omega)]
  unfold vS
  have h1 : b.toNat % 128 * 2 ^ (7 * 0) % 18446744073709551616 = b.toNat := by
    rw [Nat.mod_eq_of_lt h]
    show b.toNat * 1 % 18446744073709551616 = b.toNat
    omega
  rw [h1, Nat.zero_or]
theorem byteI_nat {n : Int} (h0 : 0 ≤ n) (h : n ≤ 7) : ((byteI n).toNat : Int) = n := by
  unfold byteI
  rw [UInt8.toNat_ofNat']
  omega
theorem smL_byte {n : Int} (h0 : 0 ≤ n) (h : n ≤ 7) (t : List UInt8) (b : Bool) : smL (byteI n :: t, b) = (n, (t, b)) := by
  have hb := byteI_nat h0 h
  have hv : varL (byteI n :: t, b) = (n, (t, b)) := by
    unfold varL
    rw [varGo_small (by omega)]
    show (((byteI n).toNat : Int), (t, b)) = _
    rw [hb]
  unfold smL
  rw [hv, if_pos h]
theorem smL_nil (b : Bool) : smL ([], b) = (0, ([], true)) := rfl
theorem memsL_bad (n : Nat) : memsL n ([], true) = ([], [], ([], true)) := by
  cases n with
  | zero => rfl
  | succ n => rw [memsL, if_pos rfl]

def Small (M : List Int) : Prop := ∀ y, y ∈ M → 0 ≤ y ∧ y ≤ 7
theorem pairsL_length : ∀ {M G : List Int}, G.length = M.length → (pairsL M G).length = 2 * M.length
  | [], [], _ => rfl
  | m :: M, g :: G, h => by
    show (byteI m :: byteI g :: pairsL M G).length = _
    rw [List.length_cons, List.length_cons, pairsL_length (by simpa using h), List.length_cons]
    omega
theorem memsL_put : ∀ {M G : List Int} (t : List UInt8), G.length = M.length → Small M → Small G → memsL M.length (pairsL M G ++ t, false) = (M, G, (t, false))
  | [], [], t, _, _, _ => rfl
  | m :: M, g :: G, t, h, h1, h2 => by
    have a := h1 m List.mem_cons_self
    have b := h2 g List.mem_cons_self
    show memsL (M.length + 1) (byteI m :: byteI g :: (pairsL M G ++ t), false) = _
    rw [memsL, if_neg Bool.false_ne_true, smL_byte a.1 a.2, smL_byte b.1 b.2, memsL_put t (by simpa using h) (fun y hy => h1 y (List.mem_cons_of_mem _ hy)) (fun y hy => h2 y (List.mem_cons_of_mem _ hy))]
theorem memsL_short : ∀ {M G : List Int} (k : Nat), G.length = M.length → Small M → Small G → k < 2 * M.length → (memsL M.length ((pairsL M G).take k, false)).2.2 = ([], true)
  | [], [], k, _, _, _, hk => absurd hk (by simp)
  | m :: M, g :: G, k, h, h1, h2, hk => by
    have a := h1 m List.mem_cons_self
    have b := h2 g List.mem_cons_self
    match k with
    | 0 =>
      show (memsL (M.length + 1) ([], false)).2.2 = _
      rw [memsL, if_neg Bool.false_ne_true, smL_nil, smL_nil, memsL_bad]
    | 1 =>
      show (memsL (M.length + 1) ([byteI m], false)).2.2 = _
      rw [memsL, if_neg Bool.false_ne_true, smL_byte a.1 a.2, smL_nil, memsL_bad]
    | k + 2 =>
      show (memsL (M.length + 1) (byteI m :: byteI g :: (pairsL M G).take k, false)).2.2 = _
      rw [memsL, if_neg Bool.false_ne_true, smL_byte a.1 a.2, smL_byte b.1 b.2]
      show (memsL M.length ((pairsL M G).take k, false)).2.2 = _
      exact memsL_short k (by simpa using h) (fun y hy => h1 y (List.mem_cons_of_mem _ hy)) (fun y hy => h2 y (List.mem_cons_of_mem _ hy)) (by simp at hk; omega)

theorem rightL_small {lvl : Int} (h0 : 0 ≤ lvl) : ∀ {M G : List Int} {last : Int}, 0 ≤ last → G.length = M.length → rightL M G lvl last = true → Small M ∧ Small G
  | [], [], _, _, _, _ => ⟨fun _ hy => absurd hy List.not_mem_nil, fun _ hy => absurd hy List.not_mem_nil⟩
  | m :: M, g :: G, last, hl, h, hr => by
    rw [rightL_cons] at hr
    obtain ⟨i1, i2⟩ := rightL_small h0 (M := M) (G := G) (last := m) (by omega) (by simpa using h) hr.2
    refine ⟨fun y hy => ?_, fun y hy => ?_⟩
    · rcases List.mem_cons.1 hy with rfl | hy
      · omega
      · exact i1 y hy
    · rcases List.mem_cons.1 hy with rfl | hy
      · omega
      · exact i2 y hy
theorem putC_length (c : Cfg) (h : c.ok = true) : (putC c).length = 3 + 2 * c.M.length := by
  obtain ⟨-, -, h3, -, -, -, -⟩ := (Cfg.ok_iff c).1 h
  unfold putC
  rw [List.length_cons, List.length_append, pairsL_length h3]
  simp
  omega
theorem finI (b : Bool) : (0 : Int) ≤ (if b = true then 1 else 0) ∧ (if b = true then (1 : Int) else 0) ≤ 1 := by cases b <;> decide
theorem rawC_put (c : Cfg) (h : c.ok = true) (t : List UInt8) : rawC (putC c ++ t) = (c, (t, false), if c.fin = true then 1 else 0) := by
  obtain ⟨h1, h2, h3, h4, h5, h6, h7⟩ := (Cfg.ok_iff c).1 h
  obtain ⟨s1, s2⟩ := rightL_small (by omega) (by decide) h3 h7
  have e1 : smL (putC c ++ t, false) = (((c.M.length : Nat) : Int), (pairsL c.M c.G ++ (byteI c.lvl :: byteI (if c.fin = true then 1 else 0) :: t), false)) := by
    have : putC c ++ t = byteI (c.M.length : Nat) :: (pairsL c.M c.G ++ (byteI c.lvl :: byteI (if c.fin = true then 1 else 0) :: t)) := by
      unfold putC
      simp
    rw [this]
    exact smL_byte (by omega) (by omega) _ _
  have e2 : smL (byteI c.lvl :: byteI (if c.fin = true then 1 else 0) :: t, false) = (c.lvl, (byteI (if c.fin = true then 1 else 0) :: t, false)) := smL_byte (by omega) (by omega) _ _
  have e3 : smL (byteI (if c.fin = true then 1 else 0) :: t, false) = ((if c.fin = true then 1 else 0), (t, false)) := smL_byte (finI _).1 (by have := (finI c.fin).2; omega) _ _
  have e4 : (((c.M.length : Nat) : Int)).toNat = c.M.length := by omega
  unfold rawC
  rw [e1]
  simp only [e4, memsL_put _ h3 s1 s2, e2, e3]
  cases c with
  | mk M G lvl fin => cases fin <;> rfl
theorem getC_put (c : Cfg) (h : c.ok = true) : getC (putC c) = (c, true) := by
  have e := rawC_put c h []
  rw [List.append_nil] at e
  unfold getC
  rw [e, if_neg]
  rintro (h' | h' | h' | h')
  · cases h'
  · exact absurd (show 0 < ([] : List UInt8).length from h') (by decide)
  · have := (finI c.fin).2; have h'' : (1 : Int) < (if c.fin = true then 1 else 0) := h'; omega
  · have h'' : c.ok = false := h'; rw [h] at h''; cases h''
theorem getC_long (c : Cfg) (h : c.ok = true) (x : UInt8) : getC (putC c ++ [x]) = (noCfg, false) := by
  unfold getC
  rw [rawC_put c h, if_pos (Or.inr (Or.inl (show 0 < [x].length from Nat.zero_lt_one)))]
theorem smL_bad (b : Bool) : (smL ([], b)).2 = ([], true) := rfl
theorem rawC_short (c : Cfg) (h : c.ok = true) (k : Nat) (hk : k < 3 + 2 * c.M.length) : (rawC ((putC c).take k)).2.1.2 = true := by
  obtain ⟨h1, h2, h3, h4, h5, h6, h7⟩ := (Cfg.ok_iff c).1 h
  obtain ⟨s1, s2⟩ := rightL_small (by omega) (by decide) h3 h7
  have hlen := pairsL_length h3
  match k with
  | 0 =>
    show (rawC []).2.1.2 = true
    unfold rawC
    rw [smL_nil]
    show (smL (smL (memsL 0 ([], true)).2.2).2).2.2 = true
    rfl
  | k + 1 =>
    have e1 : smL ((putC c).take (k + 1), false) = (((c.M.length : Nat) : Int), ((pairsL c.M c.G ++ [byteI c.lvl, byteI (if c.fin = true then 1 else 0)]).take k, false)) := by
      show smL (byteI (c.M.length : Nat) :: (pairsL c.M c.G ++ [byteI c.lvl, byteI (if c.fin = true then 1 else 0)]).take k, false) = _
      exact smL_byte (by omega) (by omega) _ _
    have e4 : (((c.M.length : Nat) : Int)).toNat = c.M.length := by omega
    unfold rawC
    rw [e1]
    simp only [e4]
    by_cases hk1 : k < 2 * c.M.length
    · rw [List.take_append_of_le_length (by omega), memsL_short k h3 s1 s2 hk1]
      rfl
    · have e5 : (pairsL c.M c.G ++ [byteI c.lvl, byteI (if c.fin = true then 1 else 0)]).take k = pairsL c.M c.G ++ [byteI c.lvl, byteI (if c.fin = true then 1 else 0)].take (k - 2 * c.M.length) := by
        rw [List.take_append, hlen, List.take_of_length_le (by omega)]
      rw [e5, memsL_put _ h3 s1 s2]
      have hj : k - 2 * c.M.length = 0 ∨ k - 2 * c.M.length = 1 := by omega
      rcases hj with hj | hj
      · rw [hj]; rfl
      · rw [hj]
        show (smL (smL ([byteI c.lvl], false)).2).2.2 = true
        rw [smL_byte (by omega) (by omega)]
        rfl
theorem getC_short (c : Cfg) (h : c.ok = true) (k : Nat) (hk : k < 3 + 2 * c.M.length) : getC ((putC c).take k) = (noCfg, false) := by
  unfold getC
  rw [if_pos (Or.inl (rawC_short c h k hk))]
end Go.Proofs.YtnnpjjehecbljaaGreatDoor

namespace Go.Proofs.YtnnpjjehecbljaaGreatDoor
open List renaming getElem?_toArray → lg0, getElem?_cons_succ → lg1, getElem?_cons_zero → lg2, setIfInBounds_toArray → lt0', set_cons_zero → lt1', set_cons_succ → lt2'
open Go.RowKit

def itS (n : Int) : ByteArray := ⟨(Lib.decDigits n.toNat).toArray⟩
def pieceS (m g : Int) : ByteArray := itS m ++ ⟨#[58]⟩ ++ itS g
def levS (n : Int) : ByteArray := ⟨#[108, 101, 118, 101, 108, 32]⟩ ++ itS n
def partsC (c : Cfg) : List ByteArray := List.zipWith pieceS c.M c.G ++ [levS c.lvl] ++ (if c.fin = true then [⟨#[102, 105, 110, 97, 108]⟩] else [])
/-- A config's text. -/
def textC (c : Cfg) : ByteArray := ⟨(Lib.join ((partsC c).map (·.data.toList)) [32]).toArray⟩
theorem itoaS (n : Int) (h0 : 0 ≤ n) (h1 : n < 10) (w : World) : Calls Tryz.prog 33 #[.int .i64 n] w fun e w' => e = .returned (.string (itS n)) ∧ w = w' := by
  have h := Tryz.strconv_Itoa_small n.toNat (by omega) w
  rw [show ((n.toNat : Nat) : Int) = n by omega] at h
  exact h.mono fun e w' ⟨h1, h2⟩ => ⟨h1, h2.symm⟩
theorem itS_size {n : Int} (h0 : 0 ≤ n) (h1 : n < 10) : (itS n).size = 1 := by
  have h : ∀ k : Fin 10, (Lib.decDigits k.val).length = 1 := by decide +kernel
  have := h ⟨n.toNat, by omega⟩
  unfold itS
  show (Lib.decDigits n.toNat).toArray.size = 1
  simpa using this
theorem pieceS_size {m g : Int} (h0 : 0 ≤ m) (h1 : m < 10) (h2 : 0 ≤ g) (h3 : g < 10) : (pieceS m g).size = 3 := by
  unfold pieceS
  rw [ByteArray.size_append, ByteArray.size_append, itS_size h0 h1, itS_size h2 h3]
  rfl
theorem Tryz.elS : ElT Tryz.prog 67 9 (.string ⟨#[]⟩) 1 16 := ElT.mk' Tryz.underlying67 (by kernel_rfl) rfl (by decide)
/-- The pieces of the first k members, as values. -/
def pcsV (M G : List Int) (k : Nat) : List Value := (List.zipWith pieceS (M.take k) (G.take k)).map Value.string
theorem pcsV_len {M G : List Int} {k : Nat} (h : k ≤ M.length) (hg : G.length = M.length) : (pcsV M G k).length = k := by
  unfold pcsV
  simp
  omega
theorem pcsV_snoc {M G : List Int} {k : Nat} (h : k < M.length) (hg : G.length = M.length) : pcsV M G k ++ [.string (pieceS (M.getD k 0) (G.getD k 0))] = pcsV M G (k + 1) := by
  unfold pcsV
  rw [List.take_succ_eq_append_getElem h, List.take_succ_eq_append_getElem (by omega), List.zipWith_append (by simp; omega), List.map_append]
  simp [List.getD, List.getElem?_eq_getElem h, List.getElem?_eq_getElem (show k < G.length by omega)]
theorem Iv.at_ {w : World} {g cap : Nat} {l : List Int} (h : Iv w g cap l) {k : Nat} (hk : k < l.length) : w.cell? ⟨g, k, none⟩ = some (.int .i64 (l.getD k 0)) := by
  have := h.cell k hk
  rwa [Nat.zero_add] at this

theorem interc_le (sep : List UInt8) (b : Nat) : ∀ (xs : List (List UInt8)), (∀ x, x ∈ xs → x.length ≤ b) → (sep.intercalate xs).length ≤ xs.length * (b + sep.length)
  | [], _ => by simp [List.intercalate]
  | [x], h => by have := h x List.mem_cons_self; simp [List.intercalate]; omega
  | x :: y :: r, h => by
    have h1 := interc_le sep b (y :: r) (fun z hz => h z (List.mem_cons_of_mem _ hz))
    have h2 := h x List.mem_cons_self
    have e : (sep.intercalate (x :: y :: r)) = x ++ (sep ++ sep.intercalate (y :: r)) := by simp [List.intercalate]
    rw [e, List.length_append, List.length_append, List.length_cons, Nat.add_mul]
    omega
theorem levS_size {n : Int} (h0 : 0 ≤ n) (h1 : n < 10) : (levS n).size = 7 := by
  unfold levS
  rw [ByteArray.size_append, itS_size h0 h1]
  rfl
theorem partsC_le {c : Cfg} (hok : c.ok = true) : (partsC c).length ≤ 9 ∧ ∀ x, x ∈ (partsC c).map (·.data.toList) → x.length ≤ 7 := by
  obtain ⟨h1, h2, h3, h4, h5, h6, h7⟩ := (Cfg.ok_iff c).1 hok
  obtain ⟨s1, s2⟩ := rightL_small (by omega) (by decide) h3 h7
  constructor
  · unfold partsC
    cases c.fin <;> simp <;> omega
  · intro x hx
    obtain ⟨b, hb, rfl⟩ := List.mem_map.1 hx
    show b.data.toList.length ≤ 7
    have hb2 : b.size ≤ 7 := by
      unfold partsC at hb
      rw [List.mem_append, List.mem_append] at hb
      rcases hb with (hb | hb) | hb
      · rw [List.mem_iff_getElem?] at hb
        obtain ⟨i, hi⟩ := hb
        rw [List.getElem?_zipWith] at hi
        cases hm : c.M[i]? with
        | none => rw [hm] at hi; simp at hi
        | some m =>
          cases hg : c.G[i]? with
          | none => rw [hm, hg] at hi; simp at hi
          | some g =>
            rw [hm, hg] at hi
            have a1 := s1 m (List.mem_of_getElem? hm)
            have a2 := s2 g (List.mem_of_getElem? hg)
            have : pieceS m g = b := by simpa using hi
            rw [← this, pieceS_size (by omega) (by omega) (by omega) (by omega)]
            decide
      · have : b = levS c.lvl := by simpa using hb
        rw [this, levS_size (by omega) (by omega)]
        decide
      · cases hf : c.fin with
        | false => rw [hf] at hb; simp at hb
        | true => rw [hf] at hb; have : b = ⟨#[102, 105, 110, 97, 108]⟩ := by simpa using hb
                  rw [this]; decide
    exact hb2
theorem sJoinC {c : Cfg} (hok : c.ok = true) (g cap : Nat) (w : World) (h : Ck.in (g, .row 9 cap ((partsC c).map Value.string)) w) (n : Nat) (hn : n = (partsC c).length) :
    Calls Tryz.prog 34 #[.slice (some ⟨g, 0, none⟩) n cap, .string ⟨#[32]⟩] w fun e w' => e = .returned (.string (textC c)) ∧ Fr [] w w' := by
  subst hn
  obtain ⟨p1, p2⟩ := partsC_le hok
  have hs := h.says
  obtain ⟨o, ho, cur, rfl, q2, q3, q4, q5⟩ := h
  simp only [Ck.say, List.length_map] at hs q3
  refine (Tryz.strings_Join g 0 cap (partsC c) ⟨#[32]⟩ w ?_ hs.2.2 (by omega) q3 ?_).mono ?_
  · intro j x hj
    have hlt : j < (partsC c).length := by
      rcases Nat.lt_or_ge j (partsC c).length with h1 | h1
      · exact h1
      · rw [List.getElem?_eq_none h1] at hj; cases hj
    rw [Nat.zero_add, hs.1 j hlt, List.getElem?_map, hj]
    rfl
  · have := interc_le [32] 7 _ p2
    rw [List.length_map] at this
    have h9 : (partsC c).length * (7 + [(32 : UInt8)].length) ≤ 9 * 8 := Nat.mul_le_mul p1 (Nat.le_refl _)
    show (List.intercalate [32] _).length ≤ _
    omega
  · rintro e w' ⟨rfl, hb⟩
    exact ⟨rfl, Fr.ofBelow hb⟩

set_option maxHeartbeats 8000000 in
set_option maxRecDepth 100000 in
theorem lText (gm cm gh ch : Nat) (c : Cfg) (w : World) (h : Cf w gm cm gh ch c) (hok : c.ok = true) :
    Calls Tryz.prog 13 #[.agg (cfC gm cm gh ch c)] w fun e w' => e = .returned (.string (textC c)) ∧ Fr [] w w' := by
  obtain ⟨h1, h2, h3, h4, h5, h6, h7⟩ := (Cfg.ok_iff c).1 hok
  obtain ⟨s1, s2⟩ := rightL_small (by omega) (by decide) h3 h7
  have HJ := Lib.hid (fun g cap (w1 : World) (h : Ck.in (g, .row 9 cap ((partsC c).map Value.string)) w1) (n : Nat) (hn : n = (partsC c).length) => sJoinC hok g cap w1 h n hn)
  have HI3 := Lib.hid (itoaS c.lvl (by omega) (by omega))
  have z3 := itS_size (n := c.lvl) (by omega) (by omega)
  unfold cfC ivV at *
  generalize htx : textC c = tx at *
  clear htx
  obtain ⟨M, G, lv, fin⟩ := c
  simp only at *
  have HI := Lib.hid (fun (w1 : World) (f : Fr [] w w1) => h.fr f (by simp) (by simp))
  have HG := Lib.hid h3
  have HM7 := Lib.hid (And.intro h1 h2)
  have s1' : ∀ k, k < M.length → 0 ≤ M.getD k 0 ∧ M.getD k 0 < 10 := fun k hk => by
    have := s1 (M.getD k 0) (by simp [List.getD, List.getElem?_eq_getElem hk]); omega
  have s2' : ∀ k, k < G.length → 0 ≤ G.getD k 0 ∧ G.getD k 0 < 10 := fun k hk => by
    have := s2 (G.getD k 0) (by simp [List.getD, List.getElem?_eq_getElem hk]); omega
  have HS1 := Lib.hid s1'
  have HS2 := Lib.hid s2'
  clear h h6 h7 s1 s2 s1' s2' hok
  rw [h3]
  generalize hn : M.length = n at *
  have HN := Lib.hid hn
  clear hn h3
  obtain ⟨cx, hcx⟩ : ∃ cx, w.heap.size = cx := ⟨_, rfl⟩
  have hS := (Sat.refl [] w).new cx hcx #[.slice (some ⟨gm, 0, none⟩) n cm, .slice (some ⟨gh, 0, none⟩) n ch, .int .i64 lv, .bool fin] 30
  have hmn : mnI (n : Int) (n : Int) = (n : Int) := by unfold mnI; split <;> rfl
  go_enter Tryz.func13, Tryz.ntmps13
  go_upto_region 2 with fail
  generalize w.alloc (.cells #[.slice (some ⟨gm, 0, none⟩) n cm, .slice (some ⟨gh, 0, none⟩) n ch, .int .i64 lv, .bool fin] 30) = w1 at *
  have HX := Lib.hid hcx
  clear hcx
  rw [HX.out] at *
  have fs := hS.says
  simp only [says, Ck.say] at fs
  go_wp2_with fail
  clear fs
  go_loopw [3, 12] (fun v i wr => ∃ (k : Nat) (o : Option (Nat × Nat)), k ≤ n ∧ i = .int .i64 k ∧ v = slV o k ∧ Hid (o = none → k = 0) ∧ Hid (Sat [] w (slH 9 o (pcsV M G k) ++ [(cx, .cel #[.slice (some ⟨gm, 0, none⟩) n cm, .slice (some ⟨gh, 0, none⟩) n ch, .int .i64 lv, .bool fin] 30)]) wr)) (fun _ i _ => n - (intOf i).toNat)
  case atStart => exact ⟨0, none, Nat.zero_le _, rfl, rfl, (fun _ => rfl), hS⟩
  case round =>
    clear hS
    obtain ⟨k, o, hk, rfl, rfl, ho, hS⟩ := hrel
    have hS := hS.out
    have hcx0 := hS.all (cx, _) (List.mem_append.2 (.inr (List.mem_singleton.2 rfl)))
    have fs := hcx0.says
    simp only [Ck.say] at fs
    by_cases hlt : k < n
    · have i1 := HI.out _ hS.fr
      have e1 : wr.cell? ⟨gm, k, none⟩ = some (.int .i64 (M.getD k 0)) := i1.1.at_ (by rw [HN.out]; exact hlt)
      have e2 : wr.cell? ⟨gh, k, none⟩ = some (.int .i64 (G.getD k 0)) := i1.2.1.at_ (by rw [HG.out]; exact hlt)
      have b1 := HS1.out k (by first | exact hlt | (rw [HN.out]; exact hlt))
      have b2 := HS2.out k (by rw [HG.out]; exact hlt)
      have hsn := Lib.hid (pcsV_snoc (M := M) (G := G) (k := k) (by rw [HN.out]; exact hlt) (HG.out.trans HN.out.symm))
      have hln := Lib.hid (pcsV_len (M := M) (G := G) (k := k) (by rw [HN.out]; omega) (HG.out.trans HN.out.symm))
      have z1 := itS_size b1.1 b1.2
      have z2 := itS_size b2.1 b2.2
      have HI1 := Lib.hid (itoaS _ b1.1 b1.2)
      have HI2 := Lib.hid (itoaS _ b2.1 b2.2)
      have hps : itS (M.getD k 0) ++ (⟨#[58]⟩ : ByteArray) ++ itS (G.getD k 0) = pieceS (M.getD k 0) (G.getD k 0) := rfl
      have HPS := Lib.hid hps
      clear hps i1
      generalize M.getD k 0 = m at *
      generalize G.getD k 0 = g at *
      have c1 : ¬ 9223372036854775807 < (itS m).size + (⟨#[58]⟩ : ByteArray).size := by rw [z1]; decide
      have c2 : ¬ 9223372036854775807 < (itS m ++ (⟨#[58]⟩ : ByteArray)).size + (itS g).size := by rw [ByteArray.size_append, z1, z2]; decide
      go_upto_region 5 with fail
      refine GoL.begin [(some 6, fun w => w.cell? ⟨cx, 0, none⟩ = some (.slice (some ⟨gm, 0, none⟩) n cm)), (some 6, fun w => w.cell? ⟨gm, k, none⟩ = some (.int .i64 m)), (some 13, fun w => w.cell? ⟨cx, 1, none⟩ = some (.slice (some ⟨gh, 0, none⟩) n ch)), (some 13, fun w => w.cell? ⟨gh, k, none⟩ = some (.int .i64 g))] (by kernel_rfl) ?_ ?_
      · exact (Facts.cons_at (.inr (by first | (simp [fs, e1, e2]) | (simp_all))) (Facts.cons_at (.inr (by first | (simp [fs, e1, e2]) | (simp_all))) (Facts.cons_at (.inr (by first | (simp [fs, e1, e2]) | (simp_all))) (Facts.cons_at (.inr (by first | (simp [fs, e1, e2]) | (simp_all))) Facts.nil_at))))
      have hS := hS.drew
      have e1 : wr.drew.cell? ⟨gm, k, none⟩ = some (.int .i64 m) := e1
      have e2 : wr.drew.cell? ⟨gh, k, none⟩ = some (.int .i64 g) := e2
      clear fs
      have fs := (hS.all (cx, _) (List.mem_append.2 (.inr (List.mem_singleton.2 rfl)))).says
      simp only [Ck.say] at fs
      generalize wr.drew = w2 at *
      refine' GoL.take 0 [] ?_ ?_ ?_ ?_ ?_
      rotate_left 3
      · (simp only [lg0, lg1, lg2]; rfl)
      · exact fun _ _ _ h => h
      · (refine Or.inl ⟨by first | kernel_rfl | (simp [Region.wanted, yielded]), ?_⟩; intro w hSw; clear hSw; go_simp; first | done | with_reducible rfl)
      rotate_left 1
      · kernel_rfl
      simp only [Act.put, lt0', lt1', lt2']
      refine' GoL.take 1 [] ?_ ?_ ?_ ?_ ?_
      rotate_left 3
      · (simp only [lg0, lg1, lg2]; rfl)
      · exact fun _ _ _ h => h
      · (refine Or.inl ⟨by first | kernel_rfl | (simp [Region.wanted, yielded]), ?_⟩; intro w hSw; clear hSw; go_simp; first | done | with_reducible rfl)
      rotate_left 1
      · kernel_rfl
      simp only [Act.put, lt0', lt1', lt2']
      refine' GoL.take 2 [4, 5, 6] ?_ ?_ ?_ ?_ ?_
      rotate_left 3
      · (simp only [lg0, lg1, lg2]; rfl)
      · exact fun _ _ _ h => h
      · (refine Or.inl ⟨by first | kernel_rfl | (simp [Region.wanted, yielded]), ?_⟩; intro w hSw; have f0 := Facts.get hSw 0 rfl (by decide); (try dsimp only at f0); clear hSw; go_simp; first | done | with_reducible rfl)
      rotate_left 1
      · kernel_rfl
      simp only [Act.put, lt0', lt1', lt2']
      refine' GoL.take 3 [] ?_ ?_ ?_ ?_ ?_
      rotate_left 3
      · (simp only [lg0, lg1, lg2]; rfl)
      · exact fun _ _ _ h => h
      · (refine Or.inl ⟨by first | kernel_rfl | (simp [Region.wanted, yielded]), ?_⟩; intro w hSw; clear hSw; go_simp; first | done | with_reducible rfl)
      rotate_left 1
      · kernel_rfl
      simp only [Act.put, lt0', lt1', lt2']
      refine' GoL.take 4 [] ?_ ?_ ?_ ?_ ?_
      rotate_left 3
      · (simp only [lg0, lg1, lg2]; rfl)
      · exact fun _ _ _ h => h
      · (refine Or.inl ⟨by first | kernel_rfl | (simp [Region.wanted, yielded]), ?_⟩; intro w hSw; clear hSw; go_simp; first | done | with_reducible rfl)
      rotate_left 1
      · kernel_rfl
      simp only [Act.put, lt0', lt1', lt2']
      refine' GoL.take 5 [6] ?_ ?_ ?_ ?_ ?_
      rotate_left 3
      · (simp only [lg0, lg1, lg2]; rfl)
      · exact fun _ _ _ h => h
      · (refine Or.inl ⟨by first | kernel_rfl | (simp [Region.wanted, yielded]), ?_⟩; intro w hSw; have f1 := Facts.get hSw 1 rfl (by decide); (try dsimp only at f1); clear hSw; go_simp; first | done | with_reducible rfl)
      rotate_left 1
      · kernel_rfl
      simp only [Act.put, lt0', lt1', lt2']
      refine' GoL.take 8 [] ?_ ?_ ?_ ?_ ?_
      rotate_left 3
      · (simp only [lg0, lg1, lg2]; rfl)
      · exact fun _ _ _ h => h
      · (refine Or.inl ⟨by first | kernel_rfl | (simp [Region.wanted, yielded]), ?_⟩; intro w hSw; clear hSw; go_simp; first | done | with_reducible rfl)
      rotate_left 1
      · kernel_rfl
      simp only [Act.put, lt0', lt1', lt2']
      refine' GoL.take 9 [11, 12, 13] ?_ ?_ ?_ ?_ ?_
      rotate_left 3
      · (simp only [lg0, lg1, lg2]; rfl)
      · exact fun _ _ _ h => h
      · (refine Or.inl ⟨by first | kernel_rfl | (simp [Region.wanted, yielded]), ?_⟩; intro w hSw; have f2 := Facts.get hSw 2 rfl (by decide); (try dsimp only at f2); clear hSw; go_simp; first | done | with_reducible rfl)
      rotate_left 1
      · kernel_rfl
      simp only [Act.put, lt0', lt1', lt2']
      refine' GoL.take 10 [] ?_ ?_ ?_ ?_ ?_
      rotate_left 3
      · (simp only [lg0, lg1, lg2]; rfl)
      · exact fun _ _ _ h => h
      · (refine Or.inl ⟨by first | kernel_rfl | (simp [Region.wanted, yielded]), ?_⟩; intro w hSw; clear hSw; go_simp; first | done | with_reducible rfl)
      rotate_left 1
      · kernel_rfl
      simp only [Act.put, lt0', lt1', lt2']
      refine' GoL.take 11 [] ?_ ?_ ?_ ?_ ?_
      rotate_left 3
      · (simp only [lg0, lg1, lg2]; rfl)
      · exact fun _ _ _ h => h
      · (refine Or.inl ⟨by first | kernel_rfl | (simp [Region.wanted, yielded]), ?_⟩; intro w hSw; clear hSw; go_simp; first | done | with_reducible rfl)
      rotate_left 1
      · kernel_rfl
      simp only [Act.put, lt0', lt1', lt2']
      refine' GoL.take 12 [13] ?_ ?_ ?_ ?_ ?_
      rotate_left 3
      · (simp only [lg0, lg1, lg2]; rfl)
      · exact fun _ _ _ h => h
      · (refine Or.inl ⟨by first | kernel_rfl | (simp [Region.wanted, yielded]), ?_⟩; intro w hSw; have f3 := Facts.get hSw 3 rfl (by decide); (try dsimp only at f3); clear hSw; go_simp; first | done | with_reducible rfl)
      rotate_left 1
      · kernel_rfl
      simp only [Act.put, lt0', lt1', lt2']
      refine GoL.ready [6] (by kernel_rfl) (by simp) ?_
      refine GoL.one (by (simp only [lg0, lg1, lg2]; rfl)) (fun K hK => ?_) ?_
      · go_simp
        refine (HI1.out _).mono ?_
        rintro e w' ⟨rfl, rfl⟩
        refine hK.out _ _ ?_ ?_
        · exact (Facts.cons_at (.inl (by kernel_rfl)) (Facts.cons_at (.inl (by kernel_rfl)) (Facts.cons_at (.inr (by first | (simp [fs, e1, e2]) | (simp_all))) (Facts.cons_at (.inr (by first | (simp [fs, e1, e2]) | (simp_all))) Facts.nil_at))))
        clear hK K
        try simp only [Act.put, lt0', lt1', lt2']
        refine' GoL.take 7 [] ?_ ?_ ?_ ?_ ?_
        rotate_left 3
        · (simp only [lg0, lg1, lg2]; rfl)
        · exact fun _ _ _ h => h
        · (refine Or.inl ⟨by first | kernel_rfl | (simp [Region.wanted, yielded]), ?_⟩; intro w hSw; clear hSw; go_simp; first | done | with_reducible rfl)
        rotate_left 1
        · kernel_rfl
        simp only [Act.put, lt0', lt1', lt2']
        refine GoL.ready [13] (by kernel_rfl) (by simp) ?_
        refine GoL.one (by (simp only [lg0, lg1, lg2]; rfl)) (fun K hK => ?_) ?_
        · go_simp
          refine (HI2.out _).mono ?_
          rintro e w' ⟨rfl, rfl⟩
          refine hK.out _ _ ?_ ?_
          · exact (Facts.cons_at (.inl (by kernel_rfl)) (Facts.cons_at (.inl (by kernel_rfl)) (Facts.cons_at (.inl (by kernel_rfl)) (Facts.cons_at (.inl (by kernel_rfl)) Facts.nil_at))))
          clear hK K
          try simp only [Act.put, lt0', lt1', lt2']
          refine' GoL.take 14 [] ?_ ?_ ?_ ?_ ?_
          rotate_left 3
          · (simp only [lg0, lg1, lg2]; rfl)
          · exact fun _ _ _ h => h
          · (refine Or.inl ⟨by first | kernel_rfl | (simp [Region.wanted, yielded]), ?_⟩; intro w hSw; clear hSw; go_simp; first | done | with_reducible rfl)
          rotate_left 1
          · kernel_rfl
          simp only [Act.put, lt0', lt1', lt2']
          refine GoL.ready [15] (by kernel_rfl) (by simp) ?_
          refine GoL.one (by (simp only [lg0, lg1, lg2]; rfl)) (fun K hK => ?_) ?_
          · go_simp
            rw [HPS.out]
            have hS := hS.new _ rfl #[.string (pieceS m g)] 9
            generalize w2.heap.size = vb at *
            generalize w2.alloc (.cells #[.string (pieceS m g)] 9) = w5 at *
            refine hK.out _ _ ?_ ?_
            · exact (Facts.cons_at (.inl (by kernel_rfl)) (Facts.cons_at (.inl (by kernel_rfl)) (Facts.cons_at (.inl (by kernel_rfl)) (Facts.cons_at (.inl (by kernel_rfl)) Facts.nil_at))))
            clear hK K
            try simp only [Act.put, lt0', lt1', lt2']
            refine GoL.ready [16] (by kernel_rfl) (by simp) ?_
            refine GoL.one (by (simp only [lg0, lg1, lg2]; rfl)) (fun K hK => ?_) ?_
            · refine step_apS rfl (.tmp 15) (.tmp 30) 67 rfl Tryz.elS o (l := pcsV M G k) (u := .string (pieceS m g)) (vb := vb) (hS.perm List.perm_middle.symm) ?_ ?_ rfl (Ck.cel_in.1 (hS.mem 0 rfl)) rfl ?_ ?_ ?_
              · intro h0; have := ho.out h0; subst this; rfl
              · rw [hln.out]; rfl
              · rw [hln.out]; unfold maxLen; omega
              · rw [hln.out]; omega
              intro g6 c6 w6 hS
              rw [hln.out]
              rw [hsn.out] at hS
              refine hK.out _ _ ?_ ?_
              · exact (Facts.cons_at (.inl (by kernel_rfl)) (Facts.cons_at (.inl (by kernel_rfl)) (Facts.cons_at (.inl (by kernel_rfl)) (Facts.cons_at (.inl (by kernel_rfl)) Facts.nil_at))))
              clear hK K
              try simp only [Act.put, lt0', lt1', lt2']
              refine' GoL.take 17 [] ?_ ?_ ?_ ?_ ?_
              rotate_left 3
              · (simp only [lg0, lg1, lg2]; rfl)
              · exact fun _ _ _ h => h
              · (refine Or.inl ⟨by first | kernel_rfl | (simp [Region.wanted, yielded]), ?_⟩; intro w hSw; clear hSw; go_simp; first | done | with_reducible rfl)
              rotate_left 1
              · kernel_rfl
              simp only [Act.put, lt0', lt1', lt2']
              refine GoL.done (by kernel_rfl) ?_
              go_wp2_with fail
              go_roundw
              case rel => exact ⟨k + 1, some (g6, c6), by omega, by first | rfl | go_num, rfl, (fun h => by cases h), hS.sub (.cons_cons _ (.cons _ (List.Sublist.refl _)))⟩
              case measure => simp [intOf]; omega
            exact AllL.nil
          exact AllL.nil
        exact AllL.nil
      exact AllL.nil
    · obtain rfl : k = n := by omega
      cases o with
      | none => have := ho.out rfl; have := HM7.out; omega
      | some x =>
        obtain ⟨g0, c0⟩ := x
        simp only [slV, slH, List.cons_append, List.nil_append] at *
        have hln := Lib.hid (pcsV_len (M := M) (G := G) (k := k) (by rw [HN.out]; omega) (HG.out.trans HN.out.symm))
        have c1 : ¬ 9223372036854775807 < (⟨#[108, 101, 118, 101, 108, 32]⟩ : ByteArray).size + (itS lv).size := by rw [z3]; decide
        have hn7 := HM7.out
        have HP : Hid (∀ f, (partsC ⟨M, G, lv, f⟩).map Value.string = pcsV M G k ++ [.string (levS lv)] ++ (if f = true then [.string ⟨#[102, 105, 110, 97, 108]⟩] else [])) := by
          intro f
          unfold partsC pcsV
          rw [List.take_of_length_le (by rw [HN.out]; exact Nat.le_refl _), List.take_of_length_le (by rw [HG.out]; exact Nat.le_refl _)]
          cases f <;> simp
        have HPl : Hid (∀ f, (partsC ⟨M, G, lv, f⟩).length = k + 1 + (if f = true then 1 else 0)) := by
          intro f
          have h := congrArg List.length (HP.out f)
          rw [List.length_map, List.length_append, List.length_append, hln.out] at h
          rw [h]
          cases f <;> rfl
        cases fin with
        | false =>
          go_wp2_with (first
            | (go_at_call 33; refine (HI3.out _).mono ?_; rintro e w' ⟨rfl, rfl⟩)
            | (at_builtin; refine wpList_apS Tryz.elS (.tmp 33) (.tmp 38) (some (g0, c0)) (l := pcsV M G k) (u := .string (levS lv)) (vb := wr.heap.size) ((hS.new _ rfl #[.string (levS lv)] 9).perm (List.Perm.swap _ _ _)) (fun h => by cases h) (by rw [hln.out]; rfl) rfl (Blk.new wr #[.string (levS lv)] 9) rfl (by rw [hln.out]; unfold maxLen; omega) (by rw [hln.out]; omega) ?_; intro g1 c1 w1 hS; clear fs; have fs := (hS.mem 2 rfl).says; simp only [Ck.say] at fs)
            | (go_at_call 34; have q := HP.out false; simp only [Bool.false_eq_true, if_false, if_true, List.append_nil] at q; refine (HJ.out g1 c1 w1 (by rw [q]; exact hS.mem 0 rfl) _ (by rw [HPl.out]; simp [hln.out])).mono ?_; clear q; rintro e w2 ⟨rfl, f2⟩))
          go_ret
          exact ⟨rfl, (hS.fr0 f2).fr⟩
        | true =>
          go_wp2_with (first
            | (go_at_call 33; refine (HI3.out _).mono ?_; rintro e w' ⟨rfl, rfl⟩)
            | (at_builtin; refine wpList_apS Tryz.elS (.tmp 33) (.tmp 38) (some (g0, c0)) (l := pcsV M G k) (u := .string (levS lv)) (vb := wr.heap.size) ((hS.new _ rfl #[.string (levS lv)] 9).perm (List.Perm.swap _ _ _)) (fun h => by cases h) (by rw [hln.out]; rfl) rfl (Blk.new wr #[.string (levS lv)] 9) rfl (by rw [hln.out]; unfold maxLen; omega) (by rw [hln.out]; omega) ?_; intro g1 c1 w1 hS; clear fs; have fs := (hS.mem 2 rfl).says; simp only [Ck.say] at fs)
            | (at_builtin; refine wpList_apS Tryz.elS (.tmp 42) (.tmp 43) (some (g1, c1)) (l := pcsV M G k ++ [.string (levS lv)]) (u := .string ⟨#[102, 105, 110, 97, 108]⟩) (vb := w1.heap.size) ((hS.new _ rfl #[.string ⟨#[102, 105, 110, 97, 108]⟩] 9).perm (List.Perm.swap _ _ _)) (fun h => by cases h) (by rw [List.length_append, hln.out]; rfl) rfl (Blk.new w1 #[.string ⟨#[102, 105, 110, 97, 108]⟩] 9) rfl (by rw [List.length_append, hln.out]; unfold maxLen; simp; omega) (by rw [List.length_append, hln.out]; simp; omega) ?_; intro g2 c2 w3 hS)
            | (go_at_call 34; have q := HP.out true; simp only [Bool.false_eq_true, if_false, if_true, List.append_nil] at q; refine (HJ.out g2 c2 w3 (by rw [q]; exact hS.mem 0 rfl) _ (by rw [HPl.out]; simp [hln.out])).mono ?_; clear q; rintro e w2 ⟨rfl, f2⟩))
          go_ret
          exact ⟨rfl, (hS.fr0 f2).fr⟩
end Go.Proofs.YtnnpjjehecbljaaGreatDoor
