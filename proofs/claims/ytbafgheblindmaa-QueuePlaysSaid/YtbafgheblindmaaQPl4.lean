/-
  QueuePlays: things come and go, are lost and doubled, deed by deed, in the order that the chapter says. The row's sentence of it.
-/
import Derived.Test.YtbafgheblindmaaQPl3
import Derived.Deep.Slices
import Derived.Deep.Fields
import Derived.ChangeSame
namespace Go.Proofs.Ytbafgheblindmaa.queuePlays
open Go.ChangeShapes Go.WideShapes Go.ChangeAt Go.RowKit Go.Proofs.Ytbafgheblindmaa Go.Deep
open Go.ChangeMaps (open_string shut_string)

section
variable {H : Type} {enc : TypeId × Value → H} {P : Program} {w : World} {base : Nat} {spare : Nat → Bool} {held : Bool}
/-- A slice of structs whose fields are of one cell each: each field's cell, and that it can be read. -/
theorem open_cells {t e : TypeId} {fs : Array Field} {fuel : Nat} {cs : List Value} {x : DataW H × List MemPlace} (ht : P.underlying t = some (.slice e)) (he : P.underlying e = some (.struct fs))
    (hone : oneCellFields P fs = true) (hC : P.cellsOf e = fs.size) (h : DataW.trod enc P w base spare held fuel t cs = some x) :
    cs = [.slice none 0 0] ∨ ∃ (a : Addr) (len cap : Nat), cs = [.slice (some a) len cap] ∧ len ≤ cap ∧ cap ≤ maxLen ∧
      ∀ i, i < len → ∀ (j : Nat) (f : Field), fs[j]? = some f → ∃ (v : Value) (y : DataW H × List MemPlace) (n : Nat), w.cell? (a.add (i * fs.size + j)) = some v ∧ DataW.trod enc P w base spare held n f.type [v] = some y := by
  rcases open_slice ht h with h0 | ⟨a, len, cap, m, n, D, Pl, hcs, hb, hl, hm, hmm, hx, hi⟩
  · exact .inl h0.1
  · refine .inr ⟨a, len, cap, hcs, hl, hm, fun i him j f hj => ?_⟩
    have hlm : len ≤ m := by rw [hmm]; split <;> omega
    obtain ⟨cs', hc, ht'⟩ := hi i (by omega)
    rw [hC] at hc
    obtain ⟨ys, n', hn', hy, hlen, hyl, hf⟩ := DataW.trod_struct he ht'
    obtain ⟨_, hcl, hat⟩ := World.cells?_some hc
    obtain ⟨ho, hk⟩ := hone_of hone j f hj
    have hjl : j < fs.size := (Array.getElem?_eq_some_iff.1 hj).1
    have hcell := hat j hjl
    have h1 := hf j f hj
    rw [ho, hk] at h1
    have e1 : (cs'.drop j).take 1 = [cs'[j]'(by omega)] := by
      rw [List.drop_eq_getElem_cons (by omega)]
      rfl
    rw [e1] at h1
    exact ⟨cs'[j]'(by omega), ys[j]'(by omega), n', by rw [← Go.Deep.add_add, hcell]; exact List.getElem?_eq_getElem _, h1.trans (List.getElem?_eq_getElem _)⟩
end

theorem add_plain (b o k : Nat) : (⟨b, o, none⟩ : Addr).add k = ⟨b, o + k, none⟩ := by
  unfold Addr.add
  split
  · rename_i h; subst h; rfl
  · rfl

set_option maxRecDepth 100000 in
set_option maxHeartbeats 4000000 in
theorem walkNo (a : Option Addr) (cap : Nat) (w : World) : Calls Try.prog 5 #[.slice a 0 cap] w fun e w' => e = .returned (.bool true) ∧ Fr [] w w' := by
  go_enter Try.func5, Try.ntmps5
  go_wp2_with fail
  refine (fExamples w).mono ?_
  rintro e w1 ⟨rfl, f1⟩
  go_wp2_with fail
  refine (wNew w1).mono ?_
  rintro e w2 ⟨qa, rfl, H2⟩
  have HF1 := Lib.hid f1
  clear f1
  go_wp2_with fail
  have H3 := Lib.hid (TwoX.start H2.out)
  generalize w2.heap.size = qx at *
  refine wp_loop_rounds 1 ?_
  rw [rounds_succ]
  go_wp2_with fail
  refine (queueDrops.wAllT qa _ [] _ 0 _ H3.out.a rfl).mono ?_
  rintro e w5 ⟨aA, cA, rfl, HIA, F5⟩
  have HT5 := Lib.hid (H3.out.fr0 F5.out)
  have q5 : w5.cell? ⟨qx, 0, none⟩ = some (.slice none 0 0) := HT5.out.b.blk.cellAt (i := 0) rfl
  go_wp2_with fail
  refine wp_loop_rounds 1 ?_
  rw [rounds_succ]
  go_wp2_with fail
  go_ret
  exact ⟨rfl, HF1.out.trans0 HT5.out.fr⟩

/-- What is known of the deeds that came in. -/
theorem deeds_of {H : Type} {enc : TypeId × Value → H} {w : World} {base : Nat} {spare : Nat → Bool} {held : Bool} {fuel : Nat} {a : Option Addr} {len cap : Nat} {x : DataW H × List MemPlace}
    (h : DataW.trod enc Try.prog w base spare held fuel 40 [.slice a len cap] = some x) : len = 0 ∨ ∃ b o, a = some ⟨b, o, none⟩ ∧ len ≤ cap ∧ cap ≤ maxLen ∧ Deeds w b o len := by
  rcases open_cells Try.underlying40 Try.underlying47 (by kernel_rfl) (by kernel_rfl) h with hcs | ⟨ad, l, c, hcs, hl, hm, hc⟩
  · simp at hcs
    exact .inl hcs.2.1
  · simp at hcs
    obtain ⟨rfl, rfl, rfl⟩ := hcs
    rcases Nat.eq_zero_or_pos len with h0 | h0
    · exact .inl h0
    · refine .inr ?_
      obtain ⟨v, y, n, hv, _⟩ := hc 0 h0 0 _ rfl
      obtain ⟨b, o, sp⟩ := ad
      have hsp : sp = none := by
        cases sp with
        | none => rfl
        | some z =>
          exfalso
          have e1 : ((⟨b, o, some z⟩ : Addr).add (0 * 5 + 0)) = ⟨b, o, some z⟩ := rfl
          have hv' : w.cell? ⟨b, o, some z⟩ = some v := hv
          unfold World.cell? at hv'
          split at hv' <;> simp at hv'
      subst hsp
      refine ⟨b, o, rfl, hl, hm, fun k hk => ?_⟩
      obtain ⟨v0, y0, n0, c0, t0⟩ := hc k hk 0 _ rfl
      obtain ⟨v1, y1, n1, c1, t1⟩ := hc k hk 1 _ rfl
      obtain ⟨v2, y2, n2, c2, t2⟩ := hc k hk 2 _ rfl
      obtain ⟨v3, y3, n3, c3, t3⟩ := hc k hk 3 _ rfl
      obtain ⟨v4, y4, n4, c4, t4⟩ := hc k hk 4 _ rfl
      obtain ⟨kd, e0, -, f0⟩ := DataW.trod_int Try.underlying5 t0
      obtain ⟨ti, e1, -, f1⟩ := DataW.trod_int Try.underlying26 t1
      obtain ⟨od, e2, -, f2⟩ := DataW.trod_int Try.underlying5 t2
      obtain ⟨dt, e3, -, f3⟩ := DataW.trod_int Try.underlying3 t3
      obtain ⟨s, e4, -, f4⟩ := DataW.trod_string Try.underlying9 t4
      simp only [List.cons.injEq, and_true] at e0 e1 e2 e3 e4
      subst e0 e1 e2 e3 e4
      rw [add_plain] at c0 c1 c2 c3 c4
      have b0 := bounds_u8 f0
      have b2 := bounds_u8 f2
      refine ⟨kd, ti, od, dt, s, c0, ?_, ?_, ?_, ?_, b0.1, b0.2, b2.1, b2.2⟩
      · rw [Nat.add_assoc]; exact c1
      · rw [Nat.add_assoc]; exact c2
      · rw [Nat.add_assoc]; exact c3
      · rw [Nat.add_assoc]; exact c4

theorem own : ownKnob Try.prog.godebug = none := by kernel_rfl
theorem laidOut : laidOutB Try.prog = true := by kernel_rfl

set_option maxRecDepth 100000 in
theorem lifted (os : Os) (started : os.Started) (H : Type) (enc : TypeId × Value → H) :
    ReturnsInHanded {} Try.checked os 5 .any (Rows.queuePlaysSpec.pre6 enc Try.prog Try.f5 Rows.queuePlaysRow.domain false) (Rows.queuePlaysSpec.post enc Try.prog Try.f5 false true false false) := by
  refine returnsInHanded_of_change (C := Try.checked) own started (by kernel_rfl) Try.func5
    (ChangeSpec.witness6 (enc := enc) (C := Try.checked) false ⟨#[], #[.slice none 0 0], []⟩ 8 (by kernel_rfl) (by kernel_rfl) (by kernel_rfl) (by kernel_rfl)) ?_
  intro W base args ds gs before hval0 hW hcnd _
  have hval : ∀ (j : Nat) t v, Try.f5.params[j]? = some t → args[j]? = some v → Value.okWide Try.prog W .any base t v := hval0
  have hW' := hW
  obtain ⟨p, q, hA0, hV, rfl, hfz, hnd⟩ := hW
  have hA : DataW.TrodAll enc Try.prog W 0 (fun _ => true) true Try.f5.params.toList args.toList ds p := hA0
  rw [Try.params5] at hA hval
  obtain ⟨v0, vs0, d0, ds0, p0, q0, hargs, rfl, rfl, h0, r0⟩ := trodAll_cons hA
  obtain ⟨rfl, rfl, rfl⟩ := trodAll_nil r0
  obtain rfl : args = #[v0] := by cases args; simp_all
  obtain ⟨rfl, rfl⟩ := trodVars_none hV
  obtain ⟨a0, len0, cap0, rfl⟩ := okWide_slice Try.underlying40 (hval 0 40 v0 rfl rfl)
  have k0 := h0
  have lt0 : ∀ x ∈ p0, x.block < W.heap.size := by obtain ⟨m, hm⟩ := k0; exact DataW.trod_lt m _ _ _ hm
  have hwalk : Calls Try.prog 5 #[.slice a0 len0 cap0] W fun e w' => e = .returned (.bool true) ∧ Fr [] W w' := by
    obtain ⟨fuel, hf⟩ := h0
    rcases deeds_of (by simpa [Value.cells] using hf) with rfl | ⟨b, o, rfl, h1, h2, h3⟩
    · exact walkNo a0 cap0 W
    · exact walkRow b o len0 cap0 W h3 h1 h2
  clear hA0 hval0
  refine hwalk.mono fun e W' ⟨he, fr⟩ => ?_
  have bel := fr.below
  subst he
  exact ⟨_, rfl, _, _, _, [], _, [], hW', trodAll_mk1 (shut_bool Try.underlying4 _), (trodAll_cons_mk (Below.trod laidOut (by kernel_rfl) (of_decide_eq_true (by kernel_rfl)) k0 bel lt0) trodAll_mk0), rfl, bel.frame _, fun h => by cases h⟩

theorem over : Rows.queuePlaysRow.holds Try.pinned (OpenSpec.ofChange Rows.queuePlaysSpec) :=
  OpenClaim.holds_of_wide 5 Try.f5 rfl rfl rfl rfl rfl rfl rfl ⟨rfl, rfl, rfl, rfl, rfl⟩ rfl rfl rfl rfl rfl (by kernel_rfl) Try.func5 (by kernel_rfl)
    (of_decide_eq_true (by kernel_rfl)) (by unfold Func.isWrapper; first | (rw [if_pos (by decide +kernel)]; kernel_rfl) | (rw [if_neg (by decide +kernel)]; exact ⟨rfl, rfl⟩))
    (fun os started H enc _ => lifted os started H enc)

/-- THE STATEMENT -/
theorem proved : Rows.QueuePlaysSaid := over
#print axioms proved
end Go.Proofs.Ytbafgheblindmaa.queuePlays
