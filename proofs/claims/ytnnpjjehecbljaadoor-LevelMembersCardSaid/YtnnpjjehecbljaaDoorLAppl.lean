/-
  level.Apply: the contract.
-/
import Derived.Test.YtnnpjjehecbljaaDoorLAdd
import Derived.Test.YtnnpjjehecbljaaDoorLOp3
import Derived.Test.YtnnpjjehecbljaaDoorLHas
import Derived.Test.YtnnpjjehecbljaaDoorLEnt
import Derived.Test.YtnnpjjehecbljaaDoorFRi
import Derived.Test.YtnnpjjehecbljaaDoorFMap
namespace Go.Proofs.YtnnpjjehecbljaaDoor
open Go.RowKit

/-- A config of its own, behind a pointer, as chunks. -/
theorem LM.sat {B dx : Nat} {w : World} {c : Cfg} (h : LM B w dx c) : ∃ gm cm gh ch, Sat [dx, gm, gh] w (cfH dx gm cm gh ch c) w ∧ B ≤ dx ∧ B ≤ gm ∧ B ≤ gh := by
  obtain ⟨gm, cm, gh, ch, hB, hM, hG, hne, b1, b2, n1, n2, b3⟩ := h
  refine ⟨gm, cm, gh, ch, ?_, b3, b1, b2⟩
  refine Sat.start (H := cfH dx gm cm gh ch c) ?_ ?_
  · simp [cfH]; omega
  · intro d hd
    simp only [cfH, List.mem_cons, List.not_mem_nil, or_false] at hd
    rcases hd with rfl | rfl | rfl
    · exact Ck.cel_in.2 hB
    · exact Iv.ck.1 hM
    · exact Iv.ck.1 hG
theorem LM.of_sat {F : List Nat} {B dx gm cm gh ch : Nat} {w w' : World} {c : Cfg} (h : Sat F w (cfH dx gm cm gh ch c) w') (hF : ∀ x, x ∈ F → B ≤ x) (hB : B ≤ w.heap.size) : LM B w' dx c := by
  have nd := h.nd
  simp [cfH] at nd
  have ho : ∀ d, d ∈ cfH dx gm cm gh ch c → B ≤ d.1 := fun d hd => by
    rcases h.own d hd with h1 | h1
    · exact hF _ h1
    · omega
  have o1 := ho _ (List.mem_of_getElem? (at0 (L := _)))
  have o2 := ho _ (List.mem_of_getElem? (at1 (L := _)))
  have o3 := ho _ (List.mem_of_getElem? (at2 (L := _)))
  exact ⟨gm, cm, gh, ch, Ck.cel_in.1 (h.mem 0 rfl), Iv.ck.2 (h.mem 1 rfl), Iv.ck.2 (h.mem 2 rfl), by omega, o2, o3, by omega, by omega, o1⟩
theorem lAddT (B dx : Nat) (c : Cfg) (e : Ent) (w : World) (h : LM B w dx c) (hs : c.M.Pairwise (· ≤ ·)) (hlen : c.G.length = c.M.length) (h4 : c.M.length ≤ 4096) :
    Calls Tryd.prog 20 #[.pointer (some ⟨dx, 0, none⟩), .agg e.cells] w fun r w' => Told B dx w (addOf c e.node) r w' := by
  have hBw : B ≤ w.heap.size := by obtain ⟨_, _, _, _, hB, _, _, _, _, _, _, _, b⟩ := h; have := hB.lt; omega
  obtain ⟨gm, cm, gh, ch, hS, b1, b2, b3⟩ := h.sat
  have hF : ∀ x, x ∈ [dx, gm, gh] → B ≤ x := by intro x hx; simp at hx; omega
  refine (lAdd dx gm cm gh ch c e w hS hs hlen h4).mono ?_
  rintro r w' ⟨gm', cm', gh', ch', rfl, h1⟩
  exact ⟨rfl, fun _ => LM.of_sat h1 hF hBw, h1.fr.toBelow hBw hF⟩

/-- clone, as chunks. -/
theorem cClone (gm cm gh ch : Nat) (c : Cfg) (w : World) (h : Cf w gm cm gh ch c) (hok : c.ok = true) :
    Calls Tryd.prog 19 #[.agg (cfC gm cm gh ch c)] w fun e w' => ∃ x : Nat × Nat × Nat × Nat, e = .returned (.agg (cfC x.1 x.2.1 x.2.2.1 x.2.2.2 c)) ∧ Sat [] w [(x.1, ivCh 3 x.2.1 c.M), (x.2.2.1, ivCh 3 x.2.2.2 c.G)] w' := by
  obtain ⟨h1, h2, h3, h4, h5, h6, h7⟩ := (Cfg.ok_iff c).1 hok
  refine (lClone gm cm gh ch c w h (by omega) (by omega)).mono ?_
  rintro e w' ⟨gm', cm', gh', ch', rfl, h1, h2, h3, h4⟩
  refine ⟨(gm', cm', gh', ch'), rfl, h4, ?_, ?_, ?_⟩
  · have := h1.2.2; simp; exact this
  · intro d hd
    simp only [List.mem_cons, List.not_mem_nil, or_false] at hd
    rcases hd with rfl | rfl
    · exact Iv.ck.1 h1.1
    · exact Iv.ck.1 h1.2.1
  · intro d hd
    simp only [List.mem_cons, List.not_mem_nil, or_false] at hd
    rcases hd with rfl | rfl
    · exact .inr h2
    · exact .inr h3

/-- What Apply answers. -/
def AppPost (w : World) (a : Cfg × Int) (r : Ending) (w' : World) : Prop :=
  ∃ gm cm gh ch, r = .returned (.tuple #[.agg (cfC gm cm gh ch a.1), .int .i64 a.2]) ∧ Cf w' gm cm gh ch a.1 ∧ w.heap.size ≤ gm ∧ w.heap.size ≤ gh ∧ Fr [] w w'
theorem AppPost.of {w w' : World} {gm cm gh ch : Nat} {a : Cfg × Int} {H : List Ck} (h : Sat [] w ((gm, ivCh 3 cm a.1.M) :: (gh, ivCh 3 ch a.1.G) :: H) w') : AppPost w a (.returned (.tuple #[.agg (cfC gm cm gh ch a.1), .int .i64 a.2])) w' := by
  have o1 := (h.own _ (List.mem_of_getElem? (at0 (L := _)))).resolve_left (by simp)
  have o2 := (h.own _ (List.mem_of_getElem? (at1 (L := _)))).resolve_left (by simp)
  exact ⟨gm, cm, gh, ch, rfl, ⟨Iv.ck.2 (h.mem 0 rfl), Iv.ck.2 (h.mem 1 rfl), h.ne 0 1 rfl rfl (by decide)⟩, o1, o2, h.fr⟩


/-- What changes a config, by the kind. -/
def doesL : List (Int × Value) := [(5, .func (.func 20) #[] #[]), (6, .func (.func 21) #[] #[]), (7, .func (.func 22) #[] #[]), (8, .func (.func 23) #[] #[]), (9, .func (.func 24) #[] #[]), (10, .func (.func 25) #[] #[])]
theorem doZero (w : World) : (zeroValue 49).run Tryd.prog w = .ok .nilFunc w := Tryd.zeroValue49 w
set_option maxHeartbeats 4000000 in
set_option maxRecDepth 100000 in
/-- An entry that may not be. -/
theorem lApplyArg (gm cm gh ch : Nat) (c : Cfg) (e : Ent) (w : World) (h : Cf w gm cm gh ch c) (hok : c.ok = true) (he : e.Fits) (heok : e.ok = false) :
    Calls Tryd.prog 8 #[.agg (cfC gm cm gh ch c), .agg e.cells] w fun r w' => AppPost w (c, 1) r w' := by
  have HR := Lib.hid (fun (w1 : World) (f : Fr [] w w1) => lRight gm cm gh ch c w1 (h.fr f (by simp) (by simp)) hok)
  have HC := Lib.hid (fun (w1 : World) (f : Fr [] w w1) => cClone gm cm gh ch c w1 (h.fr f (by simp) (by simp)) hok)
  have HE := Lib.hid (fun (w1 : World) => eRight e w1 he)
  have HL := Lib.hid h
  clear h
  rw [heok] at HE
  unfold Ent.cells cfC ivV at *
  generalize hn : c.M.length = n at *
  generalize hk : c.G.length = k at *
  have HN := Lib.hid (And.intro hn hk)
  clear hn hk
  obtain ⟨cx, hcx⟩ : ∃ cx, w.heap.size = cx := ⟨_, rfl⟩
  have hS := (((Sat.refl [] w).new cx hcx #[.slice (some ⟨gm, 0, none⟩) n cm, .slice (some ⟨gh, 0, none⟩) k ch, .int .i64 c.lvl, .bool c.fin] 25).new (cx + 1) (by simp [hcx]) #[.int .u64 e.term, .int .u64 e.index, .int .i64 e.kind, .int .u64 e.client, .int .u64 e.seq, .int .u64 e.block, .int .u64 e.many, .int .i64 e.node, .int .i64 e.level, .string e.data, .string e.old] 31).new (cx + 2) (by simp [hcx]) #[.slice none 0 0, .slice none 0 0, .int .i64 0, .bool false] 25
  go_enter Tryd.func8, Tryd.ntmps8
  go_upto_region 1 with fail
  generalize ((w.alloc (.cells #[.slice (some ⟨gm, 0, none⟩) n cm, .slice (some ⟨gh, 0, none⟩) k ch, .int .i64 c.lvl, .bool c.fin] 25)).alloc (.cells #[.int .u64 e.term, .int .u64 e.index, .int .i64 e.kind, .int .u64 e.client, .int .u64 e.seq, .int .u64 e.block, .int .u64 e.many, .int .i64 e.node, .int .i64 e.level, .string e.data, .string e.old] 31)).alloc (.cells #[.slice none 0 0, .slice none 0 0, .int .i64 0, .bool false] 25) = w3 at *
  have HX := Lib.hid hcx
  clear hcx
  have fs := hS.says
  simp only [says, Ck.say] at fs
  go_wp2_with (first
    | (go_at_call 17; refine Sat.callF hS (HR.out _ hS.fr) (fun w4 hS => ?_); clear fs; have fs := hS.says; simp only [says, Ck.say] at fs)
    | (go_at_call 18; refine Sat.callF hS (HE.out _) (fun w5 hS => ?_); clear fs; have fs := hS.says; simp only [says, Ck.say] at fs)
    | (go_at_call 19; refine Sat.call0 hS (HC.out _ hS.fr) (fun ⟨g1, c1, g2, c2⟩ w6 hS => ?_); clear fs; simp only [List.cons_append, List.nil_append] at hS; have fs := hS.says; simp only [says, Ck.say] at fs))
  refine bodyPost_ret (v := .tuple #[.agg #[.slice (some ⟨g1, 0, none⟩) n c1, .slice (some ⟨g2, 0, none⟩) k c2, .int .i64 c.lvl, .bool c.fin], .int .i64 1]) (by simp [results, Tryd.results8, go_sem, fs]) rfl ?_
  obtain ⟨rfl, rfl⟩ := HN.out
  exact AppPost.of (a := (c, 1)) ((((hS.set 2 rfl 0 _).set 2 rfl 1 _).set 2 rfl 2 _).set 2 rfl 3 _)

set_option maxHeartbeats 4000000 in
set_option maxRecDepth 100000 in
/-- An entry of a kind that changes nothing. -/
theorem lApplyNo (gm cm gh ch : Nat) (c : Cfg) (e : Ent) (w : World) (h : Cf w gm cm gh ch c) (hok : c.ok = true) (he : e.Fits) (heok : e.ok = true) (hno : imLook doesL e.kind = none) :
    Calls Tryd.prog 8 #[.agg (cfC gm cm gh ch c), .agg e.cells] w fun r w' => AppPost w (c, 0) r w' := by
  have Hres := Lib.hid hno
  clear hno
  have HR := Lib.hid (fun (w1 : World) (f : Fr [] w w1) => lRight gm cm gh ch c w1 (h.fr f (by simp) (by simp)) hok)
  have HC := Lib.hid (fun (w1 : World) (f : Fr [] w w1) => cClone gm cm gh ch c w1 (h.fr f (by simp) (by simp)) hok)
  have HE := Lib.hid (fun (w1 : World) => eRight e w1 he)
  have HL := Lib.hid h
  clear h
  rw [heok] at HE
  unfold Ent.cells cfC ivV at *
  generalize hn : c.M.length = n at *
  generalize hk : c.G.length = k at *
  have HN := Lib.hid (And.intro hn hk)
  clear hn hk
  obtain ⟨cx, hcx⟩ : ∃ cx, w.heap.size = cx := ⟨_, rfl⟩
  have hS := (((Sat.refl [] w).new cx hcx #[.slice (some ⟨gm, 0, none⟩) n cm, .slice (some ⟨gh, 0, none⟩) k ch, .int .i64 c.lvl, .bool c.fin] 25).new (cx + 1) (by simp [hcx]) #[.int .u64 e.term, .int .u64 e.index, .int .i64 e.kind, .int .u64 e.client, .int .u64 e.seq, .int .u64 e.block, .int .u64 e.many, .int .i64 e.node, .int .i64 e.level, .string e.data, .string e.old] 31).new (cx + 2) (by simp [hcx]) #[.slice none 0 0, .slice none 0 0, .int .i64 0, .bool false] 25
  go_enter Tryd.func8, Tryd.ntmps8
  go_upto_region 1 with fail
  generalize ((w.alloc (.cells #[.slice (some ⟨gm, 0, none⟩) n cm, .slice (some ⟨gh, 0, none⟩) k ch, .int .i64 c.lvl, .bool c.fin] 25)).alloc (.cells #[.int .u64 e.term, .int .u64 e.index, .int .i64 e.kind, .int .u64 e.client, .int .u64 e.seq, .int .u64 e.block, .int .u64 e.many, .int .i64 e.node, .int .i64 e.level, .string e.data, .string e.old] 31)).alloc (.cells #[.slice none 0 0, .slice none 0 0, .int .i64 0, .bool false] 25) = w3 at *
  have HX := Lib.hid hcx
  clear hcx
  have fs := hS.says
  simp only [says, Ck.say] at fs
  go_upto_region 4 with (first
    | (go_at_call 17; refine Sat.callF hS (HR.out _ hS.fr) (fun w4 hS => ?_); clear fs; have fs := hS.says; simp only [says, Ck.say] at fs)
    | (go_at_call 18; refine Sat.callF hS (HE.out _) (fun w5 hS => ?_); clear fs; have fs := hS.says; simp only [says, Ck.say] at fs)
    | (go_at_call 19; refine Sat.call0 hS (HC.out _ hS.fr) (fun ⟨g1, c1, g2, c2⟩ w6 hS => ?_); clear fs; simp only [List.cons_append, List.nil_append] at hS; have fs := hS.says; simp only [says, Ck.say] at fs)
    | (refine wpList_makeMap 52 .i64 ?_; intro m wm HM HO F0; have HF : Hid (Fr [m] wm wm) := Fr.refl _ _)
    | (refine wpList_insertF 52 3 49 Tryd.underlying52 .i64 Tryd.underlying3 (.tmp 21) _ _ _ _ _ _ _ rfl rfl rfl HO HF rfl ?_; clear HO HF; intro wn HO HF))
  have hS := hS.fr0 ((F0.out.trans HF.out (fun x hx => by simp at hx; subst hx; exact .inr (Nat.le_of_eq HM.out.symm))))
  clear fs
  have fs := hS.says
  simp only [says, Ck.say] at fs
  go_wp2_with (first
    | (refine wpList_look 52 3 49 Tryd.underlying52 .i64 Tryd.underlying3 .nilFunc doZero (.tmp 24) (.tmp 26) _ _ _ rfl rfl HO true _ Hres.out ?_)
    | (go_at_call 19; refine Sat.call0 hS (HC.out _ hS.fr) (fun ⟨g1, c1, g2, c2⟩ w6 hS => ?_); clear fs; simp only [List.cons_append, List.nil_append] at hS; have fs := hS.says; simp only [says, Ck.say] at fs))
  refine bodyPost_ret (v := .tuple #[.agg #[.slice (some ⟨g1, 0, none⟩) n c1, .slice (some ⟨g2, 0, none⟩) k c2, .int .i64 c.lvl, .bool c.fin], .int .i64 0]) (by simp [results, Tryd.results8, go_sem, fs]) rfl ?_
  obtain ⟨rfl, rfl⟩ := HN.out
  exact AppPost.of (a := (c, 0)) ((((hS.set 2 rfl 0 _).set 2 rfl 1 _).set 2 rfl 2 _).set 2 rfl 3 _)

theorem Sat.told {w0 w w' : World} {Bs : List Ck} {B dx : Nat} {c : Cfg} (hS : Sat [] w0 Bs w) (hB0 : w0.heap.size ≤ B) (hBs : ∀ d, d ∈ Bs → d.1 < B) (k : Below B w w') : Sat [] w0 Bs w' ∧ (LM B w' dx c → ∃ gm cm gh ch, Sat [] w0 (cfH dx gm cm gh ch c ++ Bs) w') := by
  have hf : Fr [] w0 w' := ⟨k.os.trans hS.fr.os, k.tape.trans hS.fr.tape, k.output.trans hS.fr.output, Nat.le_trans hS.fr.size k.size, fun i hi hn => (k.block i (by omega)).trans (hS.fr.block i hi hn)⟩
  have h1 : Sat [] w0 Bs w' := ⟨hf, hS.nd, fun d hd => (hS.all d hd).same (k.block d.1 (hBs d hd)), hS.own⟩
  refine ⟨h1, fun hL => ?_⟩
  obtain ⟨gm, cm, gh, ch, hL, b1, b2, b3⟩ := hL.sat
  have hge : ∀ d, d ∈ cfH dx gm cm gh ch c → B ≤ d.1 := by
    intro d hd
    simp only [cfH, List.mem_cons, List.not_mem_nil, or_false] at hd
    rcases hd with rfl | rfl | rfl <;> assumption
  refine ⟨gm, cm, gh, ch, hf, ?_, ?_, ?_⟩
  · rw [List.map_append, List.nodup_append]
    refine ⟨hL.nd, h1.nd, ?_⟩
    intro x hx y hy
    obtain ⟨d, hd, rfl⟩ := List.mem_map.1 hx
    obtain ⟨f, hf', rfl⟩ := List.mem_map.1 hy
    have := hge d hd
    have := hBs f hf'
    omega
  · intro d hd
    rcases List.mem_append.1 hd with h2 | h2
    · exact hL.all d h2
    · exact h1.all d h2
  · intro d hd
    rcases List.mem_append.1 hd with h2 | h2
    · have := hge d h2; right; omega
    · exact h1.own d h2

theorem LM.of_sat3 {w0 w : World} {cx dx g1 c1 g2 c2 : Nat} {c : Cfg} {A0 A1 A2 : Ch} (hS : Sat [] w0 [(dx, .cel (cfC g1 c1 g2 c2 c) 25), (g1, ivCh 3 c1 c.M), (g2, ivCh 3 c2 c.G), (cx + 2, A2), (cx + 1, A1), (cx, A0)] w) (hx : w0.heap.size = cx) :
    LM (cx + 3) w dx c ∧ (∀ d, d ∈ [((cx + 2, A2) : Ck), (cx + 1, A1), (cx, A0)] → d.1 < cx + 3) ∧ Sat [] w0 [(cx + 2, A2), (cx + 1, A1), (cx, A0)] w := by
  have nd := hS.nd
  simp at nd
  have o1 := (hS.own _ (List.mem_of_getElem? (at0 (L := _)))).resolve_left (by simp)
  have o2 := (hS.own _ (List.mem_of_getElem? (at1 (L := _)))).resolve_left (by simp)
  have o3 := (hS.own _ (List.mem_of_getElem? (at2 (L := _)))).resolve_left (by simp)
  simp only at o1 o2 o3
  refine ⟨⟨g1, c1, g2, c2, Ck.cel_in.1 (hS.mem 0 rfl), Iv.ck.2 (hS.mem 1 rfl), Iv.ck.2 (hS.mem 2 rfl), by omega, by omega, by omega, by omega, by omega, by omega⟩, ?_, hS.sub (.cons _ (.cons _ (.cons _ (List.Sublist.refl _))))⟩
  intro d hd
  simp only [List.mem_cons, List.not_mem_nil, or_false] at hd
  rcases hd with rfl | rfl | rfl <;> simp only <;> omega

set_option maxHeartbeats 4000000 in
set_option maxRecDepth 100000 in
/-- An entry of a kind that changes something: by what the change does. -/
theorem lApplyGo (F : FuncId) (a : Cfg × Int) (gm cm gh ch : Nat) (c : Cfg) (e : Ent) (w : World) (h : Cf w gm cm gh ch c) (hok : c.ok = true) (he : e.Fits) (heok : e.ok = true) (hgo : imLook doesL e.kind = some (.func (.func F) #[] #[]))
    (goes : ∀ args w, (callFunc F args).run Tryd.prog w = .ok (.enter F args) w) (hcall : ∀ B dx w, LM B w dx c → Calls Tryd.prog F #[.pointer (some ⟨dx, 0, none⟩), .agg e.cells] w fun r w' => Told B dx w a r w') (ha : a.2 ≠ 0 → a.1 = c) :
    Calls Tryd.prog 8 #[.agg (cfC gm cm gh ch c), .agg e.cells] w fun r w' => AppPost w a r w' := by
  have Hres := Lib.hid hgo
  have HF1 := Lib.hid hcall
  clear hgo hcall
  have HR := Lib.hid (fun (w1 : World) (f : Fr [] w w1) => lRight gm cm gh ch c w1 (h.fr f (by simp) (by simp)) hok)
  have HC := Lib.hid (fun (w1 : World) (f : Fr [] w w1) => cClone gm cm gh ch c w1 (h.fr f (by simp) (by simp)) hok)
  have HE := Lib.hid (fun (w1 : World) => eRight e w1 he)
  have HL := Lib.hid h
  clear h
  rw [heok] at HE
  unfold Ent.cells cfC ivV at *
  generalize hn : c.M.length = n at *
  generalize hk : c.G.length = k at *
  have HN := Lib.hid (And.intro hn hk)
  clear hn hk
  obtain ⟨cx, hcx⟩ : ∃ cx, w.heap.size = cx := ⟨_, rfl⟩
  have hS := (((Sat.refl [] w).new cx hcx #[.slice (some ⟨gm, 0, none⟩) n cm, .slice (some ⟨gh, 0, none⟩) k ch, .int .i64 c.lvl, .bool c.fin] 25).new (cx + 1) (by simp [hcx]) #[.int .u64 e.term, .int .u64 e.index, .int .i64 e.kind, .int .u64 e.client, .int .u64 e.seq, .int .u64 e.block, .int .u64 e.many, .int .i64 e.node, .int .i64 e.level, .string e.data, .string e.old] 31).new (cx + 2) (by simp [hcx]) #[.slice none 0 0, .slice none 0 0, .int .i64 0, .bool false] 25
  go_enter Tryd.func8, Tryd.ntmps8
  go_upto_region 1 with fail
  generalize ((w.alloc (.cells #[.slice (some ⟨gm, 0, none⟩) n cm, .slice (some ⟨gh, 0, none⟩) k ch, .int .i64 c.lvl, .bool c.fin] 25)).alloc (.cells #[.int .u64 e.term, .int .u64 e.index, .int .i64 e.kind, .int .u64 e.client, .int .u64 e.seq, .int .u64 e.block, .int .u64 e.many, .int .i64 e.node, .int .i64 e.level, .string e.data, .string e.old] 31)).alloc (.cells #[.slice none 0 0, .slice none 0 0, .int .i64 0, .bool false] 25) = w3 at *
  have HX := Lib.hid hcx
  clear hcx
  have fs := hS.says
  simp only [says, Ck.say] at fs
  go_upto_region 4 with (first
    | (go_at_call 17; refine Sat.callF hS (HR.out _ hS.fr) (fun w4 hS => ?_); clear fs; have fs := hS.says; simp only [says, Ck.say] at fs)
    | (go_at_call 18; refine Sat.callF hS (HE.out _) (fun w5 hS => ?_); clear fs; have fs := hS.says; simp only [says, Ck.say] at fs)
    | (go_at_call 19; refine Sat.call0 hS (HC.out _ hS.fr) (fun ⟨g1, c1, g2, c2⟩ w6 hS => ?_); clear fs; simp only [List.cons_append, List.nil_append] at hS; have fs := hS.says; simp only [says, Ck.say] at fs)
    | (refine wpList_makeMap 52 .i64 ?_; intro m wm HM HO F0; have HF : Hid (Fr [m] wm wm) := Fr.refl _ _)
    | (refine wpList_insertF 52 3 49 Tryd.underlying52 .i64 Tryd.underlying3 (.tmp 21) _ _ _ _ _ _ _ rfl rfl rfl HO HF rfl ?_; clear HO HF; intro wn HO HF))
  have hS := hS.fr0 ((F0.out.trans HF.out (fun x hx => by simp at hx; subst hx; exact .inr (Nat.le_of_eq HM.out.symm))))
  clear fs
  have fs := hS.says
  simp only [says, Ck.say] at fs
  go_upto_region 8 with (first
    | (refine wpList_look 52 3 49 Tryd.underlying52 .i64 Tryd.underlying3 .nilFunc doZero (.tmp 24) (.tmp 26) _ _ _ rfl rfl HO true _ Hres.out ?_)
    | (go_at_call 19; refine Sat.call0 hS (HC.out _ hS.fr) (fun ⟨g1, c1, g2, c2⟩ w6 hS => ?_); clear fs; simp only [List.cons_append, List.nil_append] at hS; have fs := hS.says; simp only [says, Ck.say] at fs))
  have hS := hS.new _ rfl #[.slice (some ⟨g1, 0, none⟩) n c1, .slice (some ⟨g2, 0, none⟩) k c2, .int .i64 c.lvl, .bool c.fin] 25
  generalize w6.heap.size = dx at *
  generalize w6.alloc (.cells #[.slice (some ⟨g1, 0, none⟩) n c1, .slice (some ⟨g2, 0, none⟩) k c2, .int .i64 c.lvl, .bool c.fin] 25) = w7 at *
  clear fs
  have fs := hS.says
  simp only [says, Ck.say] at fs
  go_wp2_with fail
  have hL : LM (cx + 3) w7 dx c ∧ _ := LM.of_sat3 (g1 := g1) (c1 := c1) (g2 := g2) (c2 := c2) (c := c) (by unfold cfC ivV; rw [HN.out.1, HN.out.2]; exact hS) HX.out
  refine (HF1.out (cx + 3) dx w7 hL.1).mono ?_
  rintro r w8 ⟨rfl, hM, hb⟩
  have hT := Sat.told (dx := dx) (c := a.1) hL.2.2 (by rw [HX.out]; omega) hL.2.1 hb
  clear hS fs
  obtain ⟨a1, a2⟩ := a
  simp only at hM hT ha
  by_cases h0 : a2 = 0
  · subst h0
    obtain ⟨g3, c3, g4, c4, hS⟩ := hT.2 (hM rfl)
    clear hM hT hL hb
    unfold cfH cfC ivV at hS
    simp only [List.cons_append, List.nil_append] at hS
    have fs := hS.says
    simp only [says, Ck.say] at fs
    go_wp2_with fail
    refine bodyPost_ret (v := .tuple #[.agg #[.slice (some ⟨g3, 0, none⟩) a1.M.length c3, .slice (some ⟨g4, 0, none⟩) a1.G.length c4, .int .i64 a1.lvl, .bool a1.fin], .int .i64 0]) (by simp [results, Tryd.results8, go_sem, fs]) rfl ?_
    exact AppPost.of (a := (a1, 0)) (((((hS.set 3 rfl 0 _).set 3 rfl 1 _).set 3 rfl 2 _).set 3 rfl 3 _).sub (.cons _ (List.Sublist.refl _)))
  · obtain rfl : a1 = c := ha h0
    have hS := hT.1
    clear hM hT hL hb
    have fs := hS.says
    simp only [says, Ck.say] at fs
    go_wp2_with (go_at_call 19; refine Sat.call0 hS (HC.out _ hS.fr) (fun ⟨g3, c3, g4, c4⟩ w9 hS => ?_); clear fs; simp only [List.cons_append, List.nil_append] at hS; have fs := hS.says; simp only [says, Ck.say] at fs)
    refine bodyPost_ret (v := .tuple #[.agg #[.slice (some ⟨g3, 0, none⟩) n c3, .slice (some ⟨g4, 0, none⟩) k c4, .int .i64 a1.lvl, .bool a1.fin], .int .i64 a2]) (by simp [results, Tryd.results8, go_sem, fs]) rfl ?_
    obtain ⟨rfl, rfl⟩ := HN.out
    exact AppPost.of (a := (a1, a2)) ((((hS.set 2 rfl 0 _).set 2 rfl 1 _).set 2 rfl 2 _).set 2 rfl 3 _)
end Go.Proofs.YtnnpjjehecbljaaDoor
