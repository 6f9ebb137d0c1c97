/-
  Texts of this seat, joined: GGet.
-/
import Derived.Test.YthfaaoeecajkeaaDoorW14
import Derived.Test.YthfaaoeecajkeaaDoorW15
import Derived.Deep.RegionHeld3
import Derived.Laws.EntriesVeiled
import Derived.Test.YthfaaoeecajkeaaDoorWtk
set_option linter.unusedSimpArgs false
set_option linter.unusedVariables false
namespace Go.Proofs.YthfaaoeecajkeaaDoor
open List renaming getElem?_toArray → lg0, getElem?_cons_succ → lg1, getElem?_cons_zero → lg2, setIfInBounds_toArray → lt0', set_cons_zero → lt1', set_cons_succ → lt2'
open Go.RowKit

theorem vOKAt (r : Nat) (L : List UInt8) (o : Nat) (w : World) (h : RdAt w r L o) :
    Calls Tryd.prog 16 #[.pointer (some ⟨r, 0, none⟩)] w fun e w' => e = .returned (.bool (decide (o ≤ L.length))) ∧ w = w' := by
  refine (vOK r _ _ w h).mono ?_
  rw [stL_ok]
  exact fun e w' h => h
theorem vFailAt (r : Nat) (L : List UInt8) (o : Nat) (w : World) (h : RdAt w r L o) :
    Calls Tryd.prog 39 #[.pointer (some ⟨r, 0, none⟩)] w fun e w' => e = .returned (.tuple #[]) ∧ RdAt w' r L (L.length + 1) ∧ Fr [r] w w' := by
  refine (vFail r _ _ w h).mono ?_
  rintro e w' ⟨rfl, h1, h2⟩
  refine ⟨rfl, ?_, h2⟩
  unfold RdAt
  rw [stL_bad]
  exact h1

set_option maxRecDepth 100000 in
set_option maxHeartbeats 1000000 in
theorem gSmall (c r : Nat) (L : List UInt8) (o : Nat) (w : World) (hc : NumV w c r) (h : RdAt w r L o) :
    Calls Tryd.prog 36 #[.pointer (some ⟨c, 0, none⟩)] w fun e w' => e = .returned (.int .i64 (numF L o 1)) ∧ RdAt w' r L (o + 1) ∧ Fr [r] w w' := by
  have hb := numF_byte L o
  have hw : IntKind.i64.wrap (numF L o 1) = numF L o 1 := IntWalk.i64_in _ (by omega)
  have HF := Lib.hid (vFixAt r L o 1 w h (by decide))
  generalize numF L o 1 = x at *
  unfold NumV at hc
  go_enter Tryd.func36, Tryd.ntmps36
  go_wp2_with fail
  refine HF.out.mono ?_
  rintro e w1 ⟨rfl, h1, f1⟩
  go_wp2_with fail
  go_ret
  exact ⟨rfl, h1, f1⟩

theorem RdAt.over {w : World} {r o : Nat} {L : List UInt8} (h : RdAt w r L o) (ho : L.length < o) : RdAt w r L (L.length + 1) := by
  unfold RdAt at *
  rw [stL_bad]
  unfold stL at h
  rw [if_neg (by omega)] at h
  exact h
def set11 (u : World) (b : Nat) (a0 a1 a2 a3 a4 a5 a6 a7 a8 a9 a10 : Value) : World :=
  (((((((((((u.setCell ⟨b, 0, none⟩ a0).setCell ⟨b, 1, none⟩ a1).setCell ⟨b, 2, none⟩ a2).setCell ⟨b, 3, none⟩ a3).setCell ⟨b, 4, none⟩ a4).setCell ⟨b, 5, none⟩ a5).setCell ⟨b, 6, none⟩ a6).setCell ⟨b, 7, none⟩ a7).setCell ⟨b, 8, none⟩ a8).setCell ⟨b, 9, none⟩ a9).setCell ⟨b, 10, none⟩ a10)
theorem set11_fr (u : World) (b : Nat) (a0 a1 a2 a3 a4 a5 a6 a7 a8 a9 a10 : Value) : Fr [b] u (set11 u b a0 a1 a2 a3 a4 a5 a6 a7 a8 a9 a10) := by
  unfold set11
  have k : ∀ (w : World) (i : Nat) (v : Value), Fr [b] w (w.setCell ⟨b, i, none⟩ v) := fun w i v => (Fr.refl [b] w).setCell (.inl (by simp)) v
  exact ((((((((((k _ _ _).trans1 (k _ _ _)).trans1 (k _ _ _)).trans1 (k _ _ _)).trans1 (k _ _ _)).trans1 (k _ _ _)).trans1 (k _ _ _)).trans1 (k _ _ _)).trans1 (k _ _ _)).trans1 (k _ _ _)).trans1 (k _ _ _)

/-- What a store of a whole entry into a new block wants, and what it leaves. -/
theorem stE {G : Prop} {c r bo b : Nat} {L : List UInt8} {Z : Array Value} {T : TypeId} {w0 u : World} {o : Nat} {t : TypeId} (hE : Blk u b #[.int .u64 0, .int .u64 0, .int .i64 0, .int .u64 0, .int .u64 0, .int .u64 0, .int .u64 0, .int .i64 0, .int .i64 0, .string ⟨#[]⟩, .string ⟨#[]⟩] t) (hb : c < b) (h : GSt c r bo L Z T w0 u o) (hd : Lies c r bo w0) (o0 : Nat)
    (k : u.cell? ⟨b, 0, none⟩ = some (.int .u64 0) → u.cell? ⟨b, 1, none⟩ = some (.int .u64 0) → u.cell? ⟨b, 2, none⟩ = some (.int .i64 0) → u.cell? ⟨b, 3, none⟩ = some (.int .u64 0) → u.cell? ⟨b, 4, none⟩ = some (.int .u64 0) → u.cell? ⟨b, 5, none⟩ = some (.int .u64 0) → u.cell? ⟨b, 6, none⟩ = some (.int .u64 0) → u.cell? ⟨b, 7, none⟩ = some (.int .i64 0) → u.cell? ⟨b, 8, none⟩ = some (.int .i64 0) → u.cell? ⟨b, 9, none⟩ = some (.string ⟨#[]⟩) → u.cell? ⟨b, 10, none⟩ = some (.string ⟨#[]⟩) → u.frozen? ⟨b, 0, none⟩ = false → u.frozen? ⟨b, 1, none⟩ = false → u.frozen? ⟨b, 2, none⟩ = false → u.frozen? ⟨b, 3, none⟩ = false → u.frozen? ⟨b, 4, none⟩ = false → u.frozen? ⟨b, 5, none⟩ = false → u.frozen? ⟨b, 6, none⟩ = false → u.frozen? ⟨b, 7, none⟩ = false → u.frozen? ⟨b, 8, none⟩ = false → u.frozen? ⟨b, 9, none⟩ = false → u.frozen? ⟨b, 10, none⟩ = false → Hid (Blk (set11 u b (.int .u64 (numF L (o0 + 1) 8)) (.int .u64 (numF L (o0 + 9) 8)) (.int .i64 (numF L o0 1)) (.int .u64 (numF L (o0 + 17) 8)) (.int .u64 (numF L (o0 + 25) 8)) (.int .u64 (numF L (o0 + 33) 4)) (.int .u64 (numF L (o0 + 37) 4)) (.int .i64 (numF L (o0 + 41) 1)) (.int .i64 (numF L (o0 + 42) 1)) (.string ⟨#[]⟩) (.string ⟨#[]⟩)) b #[.int .u64 (numF L (o0 + 1) 8), .int .u64 (numF L (o0 + 9) 8), .int .i64 (numF L o0 1), .int .u64 (numF L (o0 + 17) 8), .int .u64 (numF L (o0 + 25) 8), .int .u64 (numF L (o0 + 33) 4), .int .u64 (numF L (o0 + 37) 4), .int .i64 (numF L (o0 + 41) 1), .int .i64 (numF L (o0 + 42) 1), .string ⟨#[]⟩, .string ⟨#[]⟩] t) → Hid (GSt c r bo L Z T w0 (set11 u b (.int .u64 (numF L (o0 + 1) 8)) (.int .u64 (numF L (o0 + 9) 8)) (.int .i64 (numF L o0 1)) (.int .u64 (numF L (o0 + 17) 8)) (.int .u64 (numF L (o0 + 25) 8)) (.int .u64 (numF L (o0 + 33) 4)) (.int .u64 (numF L (o0 + 37) 4)) (.int .i64 (numF L (o0 + 41) 1)) (.int .i64 (numF L (o0 + 42) 1)) (.string ⟨#[]⟩) (.string ⟨#[]⟩)) o) → Hid ((set11 u b (.int .u64 (numF L (o0 + 1) 8)) (.int .u64 (numF L (o0 + 9) 8)) (.int .i64 (numF L o0 1)) (.int .u64 (numF L (o0 + 17) 8)) (.int .u64 (numF L (o0 + 25) 8)) (.int .u64 (numF L (o0 + 33) 4)) (.int .u64 (numF L (o0 + 37) 4)) (.int .i64 (numF L (o0 + 41) 1)) (.int .i64 (numF L (o0 + 42) 1)) (.string ⟨#[]⟩) (.string ⟨#[]⟩)).cell? ⟨c, 0, none⟩ = some (.func (.func 35) #[.pointer (some ⟨r, 0, none⟩)] #[])) → G) : G :=
  k (hE.cellAt (i := 0) rfl) (hE.cellAt (i := 1) rfl) (hE.cellAt (i := 2) rfl) (hE.cellAt (i := 3) rfl) (hE.cellAt (i := 4) rfl) (hE.cellAt (i := 5) rfl) (hE.cellAt (i := 6) rfl) (hE.cellAt (i := 7) rfl) (hE.cellAt (i := 8) rfl) (hE.cellAt (i := 9) rfl) (hE.cellAt (i := 10) rfl) (hE.froz 0) (hE.froz 1) (hE.froz 2) (hE.froz 3) (hE.froz 4) (hE.froz 5) (hE.froz 6) (hE.froz 7) (hE.froz 8) (hE.froz 9) (hE.froz 10) (hE.put11 _ _ _ _ _ _ _ _ _ _ _) (h.set hd hb (set11_fr u b (.int .u64 (numF L (o0 + 1) 8)) (.int .u64 (numF L (o0 + 9) 8)) (.int .i64 (numF L o0 1)) (.int .u64 (numF L (o0 + 17) 8)) (.int .u64 (numF L (o0 + 25) 8)) (.int .u64 (numF L (o0 + 33) 4)) (.int .u64 (numF L (o0 + 37) 4)) (.int .i64 (numF L (o0 + 41) 1)) (.int .i64 (numF L (o0 + 42) 1)) (.string ⟨#[]⟩) (.string ⟨#[]⟩))) ((h.set hd hb (set11_fr u b (.int .u64 (numF L (o0 + 1) 8)) (.int .u64 (numF L (o0 + 9) 8)) (.int .i64 (numF L o0 1)) (.int .u64 (numF L (o0 + 17) 8)) (.int .u64 (numF L (o0 + 25) 8)) (.int .u64 (numF L (o0 + 33) 4)) (.int .u64 (numF L (o0 + 37) 4)) (.int .i64 (numF L (o0 + 41) 1)) (.int .i64 (numF L (o0 + 42) 1)) (.string ⟨#[]⟩) (.string ⟨#[]⟩))).num)

set_option maxRecDepth 100000 in
set_option maxHeartbeats 16000000 in
theorem pGet (r : Nat) (L : List UInt8) (o : Nat) (w : World) (h : RdAt w r L o) :
    Calls Tryd.prog 14 #[.pointer (some ⟨r, 0, none⟩)] w fun e w' => e = .returned (.agg (get5 L o).1.cells) ∧ RdAt w' r L (get5 L o).2 ∧ Fr [r] w w' := by
  have hmf : ∀ (fn : Fn) (first cap : Array Value) (w : World), (Instr.makeFunc fn first cap).run Tryd.prog w = .ok (.func fn first cap) w := fun _ _ _ _ => rfl
  go_enter Tryd.func14, Tryd.ntmps14
  go_wp2_with fail
  have HR0 := Lib.hid ((h.alloc (.cells #[.int .u64 0, .int .u64 0, .int .i64 0, .int .u64 0, .int .u64 0, .int .u64 0, .int .u64 0, .int .i64 0, .int .i64 0, .string ⟨#[]⟩, .string ⟨#[]⟩] 24)).alloc (.cells #[.func (.func 35) #[.pointer (some ⟨r, 0, none⟩)] #[]] 79))
  have HB0 := Lib.hid ((Blk.new w #[.int .u64 0, .int .u64 0, .int .i64 0, .int .u64 0, .int .u64 0, .int .u64 0, .int .u64 0, .int .i64 0, .int .i64 0, .string ⟨#[]⟩, .string ⟨#[]⟩] 24).alloc (.cells #[.func (.func 35) #[.pointer (some ⟨r, 0, none⟩)] #[]] 79))
  have HN0 : Hid (NumV ((w.alloc (.cells #[.int .u64 0, .int .u64 0, .int .i64 0, .int .u64 0, .int .u64 0, .int .u64 0, .int .u64 0, .int .i64 0, .int .i64 0, .string ⟨#[]⟩, .string ⟨#[]⟩] 24)).alloc (.cells #[.func (.func 35) #[.pointer (some ⟨r, 0, none⟩)] #[]] 79)) (w.heap.size + 1) r) := by
    have k := (Blk.new (w.alloc (.cells #[.int .u64 0, .int .u64 0, .int .i64 0, .int .u64 0, .int .u64 0, .int .u64 0, .int .u64 0, .int .i64 0, .int .i64 0, .string ⟨#[]⟩, .string ⟨#[]⟩] 24)) #[.func (.func 35) #[.pointer (some ⟨r, 0, none⟩)] #[]] 79).cellAt (i := 0) rfl
    rw [show (w.alloc (.cells #[.int .u64 0, .int .u64 0, .int .i64 0, .int .u64 0, .int .u64 0, .int .u64 0, .int .u64 0, .int .i64 0, .int .i64 0, .string ⟨#[]⟩, .string ⟨#[]⟩] 24)).heap.size = w.heap.size + 1 by simp] at k
    exact k
  have HF0 : Hid (Fr [r] w ((w.alloc (.cells #[.int .u64 0, .int .u64 0, .int .i64 0, .int .u64 0, .int .u64 0, .int .u64 0, .int .u64 0, .int .i64 0, .int .i64 0, .string ⟨#[]⟩, .string ⟨#[]⟩] 24)).alloc (.cells #[.func (.func 35) #[.pointer (some ⟨r, 0, none⟩)] #[]] 79))) := (((Fr.refl [r] w).alloc _).alloc _)
  have Hlt := Lib.hid h.lt
  have Hw : Hid (w.heap.size = w.heap.size) := rfl
  have Hsz : Hid (w.heap.size + 2 ≤ ((w.alloc (.cells #[.int .u64 0, .int .u64 0, .int .i64 0, .int .u64 0, .int .u64 0, .int .u64 0, .int .u64 0, .int .i64 0, .int .i64 0, .string ⟨#[]⟩, .string ⟨#[]⟩] 24)).alloc (.cells #[.func (.func 35) #[.pointer (some ⟨r, 0, none⟩)] #[]] 79)).heap.size) := by show _ ≤ _; simp
  generalize (w.alloc (.cells #[.int .u64 0, .int .u64 0, .int .i64 0, .int .u64 0, .int .u64 0, .int .u64 0, .int .u64 0, .int .i64 0, .int .i64 0, .string ⟨#[]⟩, .string ⟨#[]⟩] 24)).alloc (.cells #[.func (.func 35) #[.pointer (some ⟨r, 0, none⟩)] #[]] 79) = V at *
  clear Hw
  generalize hbo : w.heap.size = bo at *
  have Hw := Lib.hid hbo
  clear hbo
  clear h
  have n0 : V.cell? ⟨bo + 1, 0, none⟩ = some (.func (.func 35) #[.pointer (some ⟨r, 0, none⟩)] #[]) := HN0.out
  go_cut [5] from 5 to 29 (fun p wx => ∃ b5 : Nat, p = .pointer (some ⟨b5, 0, none⟩) ∧ Hid (Blk wx b5 #[.int .u64 (numF L (o + 1) 8), .int .u64 (numF L (o + 9) 8), .int .i64 (numF L o 1), .int .u64 (numF L (o + 17) 8), .int .u64 (numF L (o + 25) 8), .int .u64 (numF L (o + 33) 4), .int .u64 (numF L (o + 37) 4), .int .i64 (numF L (o + 41) 1), .int .i64 (numF L (o + 42) 1), .string ⟨#[]⟩, .string ⟨#[]⟩] 24) ∧ Hid (bo + 1 < b5) ∧ Hid (Blk wx bo #[.int .u64 0, .int .u64 0, .int .i64 0, .int .u64 0, .int .u64 0, .int .u64 0, .int .u64 0, .int .i64 0, .int .i64 0, .string ⟨#[]⟩, .string ⟨#[]⟩] 24) ∧ Hid (RdAt wx r L (o + 43)) ∧ Hid (NumV wx (bo + 1) r) ∧ Hid (Fr [r] w wx))
  case first =>
    have H0 : Hid (GSt (bo + 1) r bo L #[.int .u64 0, .int .u64 0, .int .i64 0, .int .u64 0, .int .u64 0, .int .u64 0, .int .u64 0, .int .i64 0, .int .i64 0, .string ⟨#[]⟩, .string ⟨#[]⟩] 24 w V.drew o) := ⟨HR0.out, HB0.out, HN0.out, HF0.out.drew, Hsz.out⟩
    have Hd : Hid (Lies (bo + 1) r bo w) := by have := Hlt.out; have := Hw.out; exact ⟨by omega, by omega, by omega, by omega, by omega⟩
    replace n0 := H0.out.num
    clear Hsz HR0 HB0 HN0 HF0
    refine wp_region_held_drew (S := fun w' => w'.cell? ⟨bo + 1, 0, none⟩ = some (.func (.func 35) #[.pointer (some ⟨r, 0, none⟩)] #[])) (by kernel_rfl) ?_ (fun hHeld => ?_)
    · exact n0
    generalize V.drew = U0 at *
    refine tk 0 ?_
    simp only [Act.put, lt0', lt1', lt2']
    refine tk 2 ?_
    simp only [Act.put, lt0', lt1', lt2']
    refine tk 4 ?_
    simp only [Act.put, lt0', lt1', lt2']
    refine tk 6 ?_
    simp only [Act.put, lt0', lt1', lt2']
    refine tk 8 ?_
    simp only [Act.put, lt0', lt1', lt2']
    refine tk 10 ?_
    simp only [Act.put, lt0', lt1', lt2']
    refine tk 12 ?_
    simp only [Act.put, lt0', lt1', lt2']
    refine tk 14 ?_
    simp only [Act.put, lt0', lt1', lt2']
    refine tk 16 ?_
    simp only [Act.put, lt0', lt1', lt2']
    refine wpAnyH_ready (rs := [1, 19]) (by kernel_rfl) (by simp) ?_
    refine AllReadyH.cons (by simp only [lg0, lg1, lg2]; rfl) (fun K hK => ?_) ?_
    ·
      go_simp
      (go_at_call 36; refine (gSmall (bo + 1) r L o _ H0.out.nm H0.out.rd).mono ?_)
      rintro q u1 ⟨rfl, h1, f1⟩
      have H1 := Lib.hid (H0.out.call Hd.out h1 f1)
      have n1 := H1.out.num
      clear h1 f1
      refine hK.out _ _ n1 (fun hH1 => ?_)
      clear hK K
      try simp only [Act.put, lt0', lt1', lt2']
      refine wpAnyH_ready (rs := [3, 19]) (by kernel_rfl) (by simp) ?_
      refine AllReadyH.cons (by simp only [lg0, lg1, lg2]; rfl) (fun K hK => ?_) ?_
      ·
        go_simp
        (go_at_call 35; refine (vFixAt r L (o + 1) 8 _ H1.out.rd (by decide)).mono ?_)
        rintro q u2 ⟨rfl, h1, f1⟩
        have H2 := Lib.hid (H1.out.call Hd.out h1 f1)
        have n2 := H2.out.num
        clear h1 f1
        refine hK.out _ _ n2 (fun hH2 => ?_)
        clear hK K
        try simp only [Act.put, lt0', lt1', lt2']
        refine wpAnyH_ready (rs := [5, 19]) (by kernel_rfl) (by simp) ?_
        refine AllReadyH.cons (by simp only [lg0, lg1, lg2]; rfl) (fun K hK => ?_) ?_
        ·
          go_simp
          (go_at_call 35; refine (vFixAt r L (o + 9) 8 _ H2.out.rd (by decide)).mono ?_)
          rintro q u3 ⟨rfl, h1, f1⟩
          have H3 := Lib.hid (H2.out.call Hd.out h1 f1)
          have n3 := H3.out.num
          clear h1 f1
          refine hK.out _ _ n3 (fun hH3 => ?_)
          clear hK K
          try simp only [Act.put, lt0', lt1', lt2']
          refine wpAnyH_ready (rs := [7, 19]) (by kernel_rfl) (by simp) ?_
          refine AllReadyH.cons (by simp only [lg0, lg1, lg2]; rfl) (fun K hK => ?_) ?_
          ·
            go_simp
            (go_at_call 35; refine (vFixAt r L (o + 17) 8 _ H3.out.rd (by decide)).mono ?_)
            rintro q u4 ⟨rfl, h1, f1⟩
            have H4 := Lib.hid (H3.out.call Hd.out h1 f1)
            have n4 := H4.out.num
            clear h1 f1
            refine hK.out _ _ n4 (fun hH4 => ?_)
            clear hK K
            try simp only [Act.put, lt0', lt1', lt2']
            refine wpAnyH_ready (rs := [9, 19]) (by kernel_rfl) (by simp) ?_
            refine AllReadyH.cons (by simp only [lg0, lg1, lg2]; rfl) (fun K hK => ?_) ?_
            ·
              go_simp
              (go_at_call 35; refine (vFixAt r L (o + 25) 8 _ H4.out.rd (by decide)).mono ?_)
              rintro q u5 ⟨rfl, h1, f1⟩
              have H5 := Lib.hid (H4.out.call Hd.out h1 f1)
              have n5 := H5.out.num
              clear h1 f1
              refine hK.out _ _ n5 (fun hH5 => ?_)
              clear hK K
              try simp only [Act.put, lt0', lt1', lt2']
              refine wpAnyH_ready (rs := [11, 19]) (by kernel_rfl) (by simp) ?_
              refine AllReadyH.cons (by simp only [lg0, lg1, lg2]; rfl) (fun K hK => ?_) ?_
              ·
                go_simp
                (go_at_call 35; refine (vFixAt r L (o + 33) 4 _ H5.out.rd (by decide)).mono ?_)
                rintro q u6 ⟨rfl, h1, f1⟩
                have H6 := Lib.hid (H5.out.call Hd.out h1 f1)
                have n6 := H6.out.num
                clear h1 f1
                refine hK.out _ _ n6 (fun hH6 => ?_)
                clear hK K
                try simp only [Act.put, lt0', lt1', lt2']
                refine wpAnyH_ready (rs := [13, 19]) (by kernel_rfl) (by simp) ?_
                refine AllReadyH.cons (by simp only [lg0, lg1, lg2]; rfl) (fun K hK => ?_) ?_
                ·
                  go_simp
                  (go_at_call 35; refine (vFixAt r L (o + 37) 4 _ H6.out.rd (by decide)).mono ?_)
                  rintro q u7 ⟨rfl, h1, f1⟩
                  have H7 := Lib.hid (H6.out.call Hd.out h1 f1)
                  have n7 := H7.out.num
                  clear h1 f1
                  refine hK.out _ _ n7 (fun hH7 => ?_)
                  clear hK K
                  try simp only [Act.put, lt0', lt1', lt2']
                  refine wpAnyH_ready (rs := [15, 19]) (by kernel_rfl) (by simp) ?_
                  refine AllReadyH.cons (by simp only [lg0, lg1, lg2]; rfl) (fun K hK => ?_) ?_
                  ·
                    go_simp
                    (go_at_call 36; refine (gSmall (bo + 1) r L (o + 41) _ H7.out.nm H7.out.rd).mono ?_)
                    rintro q u8 ⟨rfl, h1, f1⟩
                    have H8 := Lib.hid (H7.out.call Hd.out h1 f1)
                    have n8 := H8.out.num
                    clear h1 f1
                    refine hK.out _ _ n8 (fun hH8 => ?_)
                    clear hK K
                    try simp only [Act.put, lt0', lt1', lt2']
                    refine wpAnyH_ready (rs := [17, 19]) (by kernel_rfl) (by simp) ?_
                    refine AllReadyH.cons (by simp only [lg0, lg1, lg2]; rfl) (fun K hK => ?_) ?_
                    ·
                      go_simp
                      (go_at_call 36; refine (gSmall (bo + 1) r L (o + 42) _ H8.out.nm H8.out.rd).mono ?_)
                      rintro q u9 ⟨rfl, h1, f1⟩
                      have H9 := Lib.hid (H8.out.call Hd.out h1 f1)
                      have n9 := H9.out.num
                      clear h1 f1
                      refine hK.out _ _ n9 (fun hH9 => ?_)
                      clear hK K
                      try simp only [Act.put, lt0', lt1', lt2']
                      refine tk 18 ?_
                      simp only [Act.put, lt0', lt1', lt2']
                      refine wpAnyH_ready (rs := [19]) (by kernel_rfl) (by simp) ?_
                      refine AllReadyH.cons (by simp only [lg0, lg1, lg2]; rfl) (fun K hK => ?_) AllReadyH.nil
                      go_simp
                      have H10 := Lib.hid (H9.out.new (.cells #[.int .u64 0, .int .u64 0, .int .i64 0, .int .u64 0, .int .u64 0, .int .u64 0, .int .u64 0, .int .i64 0, .int .i64 0, .string ⟨#[]⟩, .string ⟨#[]⟩] 24))
                      have HE10 := Lib.hid (Blk.new u9 #[.int .u64 0, .int .u64 0, .int .i64 0, .int .u64 0, .int .u64 0, .int .u64 0, .int .u64 0, .int .i64 0, .int .i64 0, .string ⟨#[]⟩, .string ⟨#[]⟩] 24)
                      have HG10 := Lib.hid H9.out.lt
                      have n10 := H10.out.num
                      refine hK.out _ _ n10 (fun hH10 => ?_)
                      clear hK K
                      try simp only [Act.put, lt0', lt1', lt2']
                      generalize u9.alloc (.cells #[.int .u64 0, .int .u64 0, .int .i64 0, .int .u64 0, .int .u64 0, .int .u64 0, .int .u64 0, .int .i64 0, .int .i64 0, .string ⟨#[]⟩, .string ⟨#[]⟩] 24) = u10 at *
                      generalize u9.heap.size = b10 at *
                      refine wpAnyH_ready (rs := [20]) (by kernel_rfl) (by simp) ?_
                      refine AllReadyH.cons (by simp only [lg0, lg1, lg2]; rfl) (fun K hK => ?_) AllReadyH.nil
                      go_simp
                      refine stE HE10.out HG10.out H10.out Hd.out o ?_
                      intro q0 q1 q2 q3 q4 q5 q6 q7 q8 q9 q10 z0 z1 z2 z3 z4 z5 z6 z7 z8 z9 z10 HY HW HZ
                      go_simp
                      refine hK.out _ _ HZ.out (fun hH11 => ?_)
                      clear hK K
                      refine wpAnyH_done (by kernel_rfl) ?_ _
                      clear q0 z0 q1 z1 q2 z2 q3 z3 q4 z4 q5 z5 q6 z6 q7 z7 q8 z8 q9 z9 q10 z10
                      go_wp2_with fail
                      go_meet
                      exact ⟨b10, rfl, HY.out, HG10.out, HW.out.bk, HW.out.rd, HW.out.nm, HW.out.fr⟩
                    refine AllReadyH.cons (by simp only [lg0, lg1, lg2]; rfl) (fun K hK => ?_) AllReadyH.nil
                    go_simp
                    have H12 := Lib.hid (H8.out.new (.cells #[.int .u64 0, .int .u64 0, .int .i64 0, .int .u64 0, .int .u64 0, .int .u64 0, .int .u64 0, .int .i64 0, .int .i64 0, .string ⟨#[]⟩, .string ⟨#[]⟩] 24))
                    have HE12 := Lib.hid (Blk.new u8 #[.int .u64 0, .int .u64 0, .int .i64 0, .int .u64 0, .int .u64 0, .int .u64 0, .int .u64 0, .int .i64 0, .int .i64 0, .string ⟨#[]⟩, .string ⟨#[]⟩] 24)
                    have HG12 := Lib.hid H8.out.lt
                    have n12 := H12.out.num
                    refine hK.out _ _ n12 (fun hH12 => ?_)
                    clear hK K
                    try simp only [Act.put, lt0', lt1', lt2']
                    generalize u8.alloc (.cells #[.int .u64 0, .int .u64 0, .int .i64 0, .int .u64 0, .int .u64 0, .int .u64 0, .int .u64 0, .int .i64 0, .int .i64 0, .string ⟨#[]⟩, .string ⟨#[]⟩] 24) = u12 at *
                    generalize u8.heap.size = b12 at *
                    refine wpAnyH_ready (rs := [17]) (by kernel_rfl) (by simp) ?_
                    refine AllReadyH.cons (by simp only [lg0, lg1, lg2]; rfl) (fun K hK => ?_) AllReadyH.nil
                    go_simp
                    (go_at_call 36; refine (gSmall (bo + 1) r L (o + 42) _ H12.out.nm H12.out.rd).mono ?_)
                    rintro q u13 ⟨rfl, h1, f1⟩
                    have H13 := Lib.hid (H12.out.call Hd.out h1 f1)
                    have HE13 := Lib.hid (HE12.out.fr f1 (Hd.out.ne HG12.out))
                    have n13 := H13.out.num
                    clear h1 f1
                    refine hK.out _ _ n13 (fun hH13 => ?_)
                    clear hK K
                    try simp only [Act.put, lt0', lt1', lt2']
                    refine tk 18 ?_
                    simp only [Act.put, lt0', lt1', lt2']
                    refine wpAnyH_ready (rs := [20]) (by kernel_rfl) (by simp) ?_
                    refine AllReadyH.cons (by simp only [lg0, lg1, lg2]; rfl) (fun K hK => ?_) AllReadyH.nil
                    go_simp
                    refine stE HE13.out HG12.out H13.out Hd.out o ?_
                    intro q0 q1 q2 q3 q4 q5 q6 q7 q8 q9 q10 z0 z1 z2 z3 z4 z5 z6 z7 z8 z9 z10 HY HW HZ
                    go_simp
                    refine hK.out _ _ HZ.out (fun hH14 => ?_)
                    clear hK K
                    refine wpAnyH_done (by kernel_rfl) ?_ _
                    clear q0 z0 q1 z1 q2 z2 q3 z3 q4 z4 q5 z5 q6 z6 q7 z7 q8 z8 q9 z9 q10 z10
                    go_wp2_with fail
                    go_meet
                    exact ⟨b12, rfl, HY.out, HG12.out, HW.out.bk, HW.out.rd, HW.out.nm, HW.out.fr⟩
                  refine AllReadyH.cons (by simp only [lg0, lg1, lg2]; rfl) (fun K hK => ?_) AllReadyH.nil
                  go_simp
                  have H15 := Lib.hid (H7.out.new (.cells #[.int .u64 0, .int .u64 0, .int .i64 0, .int .u64 0, .int .u64 0, .int .u64 0, .int .u64 0, .int .i64 0, .int .i64 0, .string ⟨#[]⟩, .string ⟨#[]⟩] 24))
                  have HE15 := Lib.hid (Blk.new u7 #[.int .u64 0, .int .u64 0, .int .i64 0, .int .u64 0, .int .u64 0, .int .u64 0, .int .u64 0, .int .i64 0, .int .i64 0, .string ⟨#[]⟩, .string ⟨#[]⟩] 24)
                  have HG15 := Lib.hid H7.out.lt
                  have n15 := H15.out.num
                  refine hK.out _ _ n15 (fun hH15 => ?_)
                  clear hK K
                  try simp only [Act.put, lt0', lt1', lt2']
                  generalize u7.alloc (.cells #[.int .u64 0, .int .u64 0, .int .i64 0, .int .u64 0, .int .u64 0, .int .u64 0, .int .u64 0, .int .i64 0, .int .i64 0, .string ⟨#[]⟩, .string ⟨#[]⟩] 24) = u15 at *
                  generalize u7.heap.size = b15 at *
                  refine wpAnyH_ready (rs := [15]) (by kernel_rfl) (by simp) ?_
                  refine AllReadyH.cons (by simp only [lg0, lg1, lg2]; rfl) (fun K hK => ?_) AllReadyH.nil
                  go_simp
                  (go_at_call 36; refine (gSmall (bo + 1) r L (o + 41) _ H15.out.nm H15.out.rd).mono ?_)
                  rintro q u16 ⟨rfl, h1, f1⟩
                  have H16 := Lib.hid (H15.out.call Hd.out h1 f1)
                  have HE16 := Lib.hid (HE15.out.fr f1 (Hd.out.ne HG15.out))
                  have n16 := H16.out.num
                  clear h1 f1
                  refine hK.out _ _ n16 (fun hH16 => ?_)
                  clear hK K
                  try simp only [Act.put, lt0', lt1', lt2']
                  refine wpAnyH_ready (rs := [17]) (by kernel_rfl) (by simp) ?_
                  refine AllReadyH.cons (by simp only [lg0, lg1, lg2]; rfl) (fun K hK => ?_) AllReadyH.nil
                  go_simp
                  (go_at_call 36; refine (gSmall (bo + 1) r L (o + 42) _ H16.out.nm H16.out.rd).mono ?_)
                  rintro q u17 ⟨rfl, h1, f1⟩
                  have H17 := Lib.hid (H16.out.call Hd.out h1 f1)
                  have HE17 := Lib.hid (HE16.out.fr f1 (Hd.out.ne HG15.out))
                  have n17 := H17.out.num
                  clear h1 f1
                  refine hK.out _ _ n17 (fun hH17 => ?_)
                  clear hK K
                  try simp only [Act.put, lt0', lt1', lt2']
                  refine tk 18 ?_
                  simp only [Act.put, lt0', lt1', lt2']
                  refine wpAnyH_ready (rs := [20]) (by kernel_rfl) (by simp) ?_
                  refine AllReadyH.cons (by simp only [lg0, lg1, lg2]; rfl) (fun K hK => ?_) AllReadyH.nil
                  go_simp
                  refine stE HE17.out HG15.out H17.out Hd.out o ?_
                  intro q0 q1 q2 q3 q4 q5 q6 q7 q8 q9 q10 z0 z1 z2 z3 z4 z5 z6 z7 z8 z9 z10 HY HW HZ
                  go_simp
                  refine hK.out _ _ HZ.out (fun hH18 => ?_)
                  clear hK K
                  refine wpAnyH_done (by kernel_rfl) ?_ _
                  clear q0 z0 q1 z1 q2 z2 q3 z3 q4 z4 q5 z5 q6 z6 q7 z7 q8 z8 q9 z9 q10 z10
                  go_wp2_with fail
                  go_meet
                  exact ⟨b15, rfl, HY.out, HG15.out, HW.out.bk, HW.out.rd, HW.out.nm, HW.out.fr⟩
                refine AllReadyH.cons (by simp only [lg0, lg1, lg2]; rfl) (fun K hK => ?_) AllReadyH.nil
                go_simp
                have H19 := Lib.hid (H6.out.new (.cells #[.int .u64 0, .int .u64 0, .int .i64 0, .int .u64 0, .int .u64 0, .int .u64 0, .int .u64 0, .int .i64 0, .int .i64 0, .string ⟨#[]⟩, .string ⟨#[]⟩] 24))
                have HE19 := Lib.hid (Blk.new u6 #[.int .u64 0, .int .u64 0, .int .i64 0, .int .u64 0, .int .u64 0, .int .u64 0, .int .u64 0, .int .i64 0, .int .i64 0, .string ⟨#[]⟩, .string ⟨#[]⟩] 24)
                have HG19 := Lib.hid H6.out.lt
                have n19 := H19.out.num
                refine hK.out _ _ n19 (fun hH19 => ?_)
                clear hK K
                try simp only [Act.put, lt0', lt1', lt2']
                generalize u6.alloc (.cells #[.int .u64 0, .int .u64 0, .int .i64 0, .int .u64 0, .int .u64 0, .int .u64 0, .int .u64 0, .int .i64 0, .int .i64 0, .string ⟨#[]⟩, .string ⟨#[]⟩] 24) = u19 at *
                generalize u6.heap.size = b19 at *
                refine wpAnyH_ready (rs := [13]) (by kernel_rfl) (by simp) ?_
                refine AllReadyH.cons (by simp only [lg0, lg1, lg2]; rfl) (fun K hK => ?_) AllReadyH.nil
                go_simp
                (go_at_call 35; refine (vFixAt r L (o + 37) 4 _ H19.out.rd (by decide)).mono ?_)
                rintro q u20 ⟨rfl, h1, f1⟩
                have H20 := Lib.hid (H19.out.call Hd.out h1 f1)
                have HE20 := Lib.hid (HE19.out.fr f1 (Hd.out.ne HG19.out))
                have n20 := H20.out.num
                clear h1 f1
                refine hK.out _ _ n20 (fun hH20 => ?_)
                clear hK K
                try simp only [Act.put, lt0', lt1', lt2']
                refine wpAnyH_ready (rs := [15]) (by kernel_rfl) (by simp) ?_
                refine AllReadyH.cons (by simp only [lg0, lg1, lg2]; rfl) (fun K hK => ?_) AllReadyH.nil
                go_simp
                (go_at_call 36; refine (gSmall (bo + 1) r L (o + 41) _ H20.out.nm H20.out.rd).mono ?_)
                rintro q u21 ⟨rfl, h1, f1⟩
                have H21 := Lib.hid (H20.out.call Hd.out h1 f1)
                have HE21 := Lib.hid (HE20.out.fr f1 (Hd.out.ne HG19.out))
                have n21 := H21.out.num
                clear h1 f1
                refine hK.out _ _ n21 (fun hH21 => ?_)
                clear hK K
                try simp only [Act.put, lt0', lt1', lt2']
                refine wpAnyH_ready (rs := [17]) (by kernel_rfl) (by simp) ?_
                refine AllReadyH.cons (by simp only [lg0, lg1, lg2]; rfl) (fun K hK => ?_) AllReadyH.nil
                go_simp
                (go_at_call 36; refine (gSmall (bo + 1) r L (o + 42) _ H21.out.nm H21.out.rd).mono ?_)
                rintro q u22 ⟨rfl, h1, f1⟩
                have H22 := Lib.hid (H21.out.call Hd.out h1 f1)
                have HE22 := Lib.hid (HE21.out.fr f1 (Hd.out.ne HG19.out))
                have n22 := H22.out.num
                clear h1 f1
                refine hK.out _ _ n22 (fun hH22 => ?_)
                clear hK K
                try simp only [Act.put, lt0', lt1', lt2']
                refine tk 18 ?_
                simp only [Act.put, lt0', lt1', lt2']
                refine wpAnyH_ready (rs := [20]) (by kernel_rfl) (by simp) ?_
                refine AllReadyH.cons (by simp only [lg0, lg1, lg2]; rfl) (fun K hK => ?_) AllReadyH.nil
                go_simp
                refine stE HE22.out HG19.out H22.out Hd.out o ?_
                intro q0 q1 q2 q3 q4 q5 q6 q7 q8 q9 q10 z0 z1 z2 z3 z4 z5 z6 z7 z8 z9 z10 HY HW HZ
                go_simp
                refine hK.out _ _ HZ.out (fun hH23 => ?_)
                clear hK K
                refine wpAnyH_done (by kernel_rfl) ?_ _
                clear q0 z0 q1 z1 q2 z2 q3 z3 q4 z4 q5 z5 q6 z6 q7 z7 q8 z8 q9 z9 q10 z10
                go_wp2_with fail
                go_meet
                exact ⟨b19, rfl, HY.out, HG19.out, HW.out.bk, HW.out.rd, HW.out.nm, HW.out.fr⟩
              refine AllReadyH.cons (by simp only [lg0, lg1, lg2]; rfl) (fun K hK => ?_) AllReadyH.nil
              go_simp
              have H24 := Lib.hid (H5.out.new (.cells #[.int .u64 0, .int .u64 0, .int .i64 0, .int .u64 0, .int .u64 0, .int .u64 0, .int .u64 0, .int .i64 0, .int .i64 0, .string ⟨#[]⟩, .string ⟨#[]⟩] 24))
              have HE24 := Lib.hid (Blk.new u5 #[.int .u64 0, .int .u64 0, .int .i64 0, .int .u64 0, .int .u64 0, .int .u64 0, .int .u64 0, .int .i64 0, .int .i64 0, .string ⟨#[]⟩, .string ⟨#[]⟩] 24)
              have HG24 := Lib.hid H5.out.lt
              have n24 := H24.out.num
              refine hK.out _ _ n24 (fun hH24 => ?_)
              clear hK K
              try simp only [Act.put, lt0', lt1', lt2']
              generalize u5.alloc (.cells #[.int .u64 0, .int .u64 0, .int .i64 0, .int .u64 0, .int .u64 0, .int .u64 0, .int .u64 0, .int .i64 0, .int .i64 0, .string ⟨#[]⟩, .string ⟨#[]⟩] 24) = u24 at *
              generalize u5.heap.size = b24 at *
              refine wpAnyH_ready (rs := [11]) (by kernel_rfl) (by simp) ?_
              refine AllReadyH.cons (by simp only [lg0, lg1, lg2]; rfl) (fun K hK => ?_) AllReadyH.nil
              go_simp
              (go_at_call 35; refine (vFixAt r L (o + 33) 4 _ H24.out.rd (by decide)).mono ?_)
              rintro q u25 ⟨rfl, h1, f1⟩
              have H25 := Lib.hid (H24.out.call Hd.out h1 f1)
              have HE25 := Lib.hid (HE24.out.fr f1 (Hd.out.ne HG24.out))
              have n25 := H25.out.num
              clear h1 f1
              refine hK.out _ _ n25 (fun hH25 => ?_)
              clear hK K
              try simp only [Act.put, lt0', lt1', lt2']
              refine wpAnyH_ready (rs := [13]) (by kernel_rfl) (by simp) ?_
              refine AllReadyH.cons (by simp only [lg0, lg1, lg2]; rfl) (fun K hK => ?_) AllReadyH.nil
              go_simp
              (go_at_call 35; refine (vFixAt r L (o + 37) 4 _ H25.out.rd (by decide)).mono ?_)
              rintro q u26 ⟨rfl, h1, f1⟩
              have H26 := Lib.hid (H25.out.call Hd.out h1 f1)
              have HE26 := Lib.hid (HE25.out.fr f1 (Hd.out.ne HG24.out))
              have n26 := H26.out.num
              clear h1 f1
              refine hK.out _ _ n26 (fun hH26 => ?_)
              clear hK K
              try simp only [Act.put, lt0', lt1', lt2']
              refine wpAnyH_ready (rs := [15]) (by kernel_rfl) (by simp) ?_
              refine AllReadyH.cons (by simp only [lg0, lg1, lg2]; rfl) (fun K hK => ?_) AllReadyH.nil
              go_simp
              (go_at_call 36; refine (gSmall (bo + 1) r L (o + 41) _ H26.out.nm H26.out.rd).mono ?_)
              rintro q u27 ⟨rfl, h1, f1⟩
              have H27 := Lib.hid (H26.out.call Hd.out h1 f1)
              have HE27 := Lib.hid (HE26.out.fr f1 (Hd.out.ne HG24.out))
              have n27 := H27.out.num
              clear h1 f1
              refine hK.out _ _ n27 (fun hH27 => ?_)
              clear hK K
              try simp only [Act.put, lt0', lt1', lt2']
              refine wpAnyH_ready (rs := [17]) (by kernel_rfl) (by simp) ?_
              refine AllReadyH.cons (by simp only [lg0, lg1, lg2]; rfl) (fun K hK => ?_) AllReadyH.nil
              go_simp
              (go_at_call 36; refine (gSmall (bo + 1) r L (o + 42) _ H27.out.nm H27.out.rd).mono ?_)
              rintro q u28 ⟨rfl, h1, f1⟩
              have H28 := Lib.hid (H27.out.call Hd.out h1 f1)
              have HE28 := Lib.hid (HE27.out.fr f1 (Hd.out.ne HG24.out))
              have n28 := H28.out.num
              clear h1 f1
              refine hK.out _ _ n28 (fun hH28 => ?_)
              clear hK K
              try simp only [Act.put, lt0', lt1', lt2']
              refine tk 18 ?_
              simp only [Act.put, lt0', lt1', lt2']
              refine wpAnyH_ready (rs := [20]) (by kernel_rfl) (by simp) ?_
              refine AllReadyH.cons (by simp only [lg0, lg1, lg2]; rfl) (fun K hK => ?_) AllReadyH.nil
              go_simp
              refine stE HE28.out HG24.out H28.out Hd.out o ?_
              intro q0 q1 q2 q3 q4 q5 q6 q7 q8 q9 q10 z0 z1 z2 z3 z4 z5 z6 z7 z8 z9 z10 HY HW HZ
              go_simp
              refine hK.out _ _ HZ.out (fun hH29 => ?_)
              clear hK K
              refine wpAnyH_done (by kernel_rfl) ?_ _
              clear q0 z0 q1 z1 q2 z2 q3 z3 q4 z4 q5 z5 q6 z6 q7 z7 q8 z8 q9 z9 q10 z10
              go_wp2_with fail
              go_meet
              exact ⟨b24, rfl, HY.out, HG24.out, HW.out.bk, HW.out.rd, HW.out.nm, HW.out.fr⟩
            refine AllReadyH.cons (by simp only [lg0, lg1, lg2]; rfl) (fun K hK => ?_) AllReadyH.nil
            go_simp
            have H30 := Lib.hid (H4.out.new (.cells #[.int .u64 0, .int .u64 0, .int .i64 0, .int .u64 0, .int .u64 0, .int .u64 0, .int .u64 0, .int .i64 0, .int .i64 0, .string ⟨#[]⟩, .string ⟨#[]⟩] 24))
            have HE30 := Lib.hid (Blk.new u4 #[.int .u64 0, .int .u64 0, .int .i64 0, .int .u64 0, .int .u64 0, .int .u64 0, .int .u64 0, .int .i64 0, .int .i64 0, .string ⟨#[]⟩, .string ⟨#[]⟩] 24)
            have HG30 := Lib.hid H4.out.lt
            have n30 := H30.out.num
            refine hK.out _ _ n30 (fun hH30 => ?_)
            clear hK K
            try simp only [Act.put, lt0', lt1', lt2']
            generalize u4.alloc (.cells #[.int .u64 0, .int .u64 0, .int .i64 0, .int .u64 0, .int .u64 0, .int .u64 0, .int .u64 0, .int .i64 0, .int .i64 0, .string ⟨#[]⟩, .string ⟨#[]⟩] 24) = u30 at *
            generalize u4.heap.size = b30 at *
            refine wpAnyH_ready (rs := [9]) (by kernel_rfl) (by simp) ?_
            refine AllReadyH.cons (by simp only [lg0, lg1, lg2]; rfl) (fun K hK => ?_) AllReadyH.nil
            go_simp
            (go_at_call 35; refine (vFixAt r L (o + 25) 8 _ H30.out.rd (by decide)).mono ?_)
            rintro q u31 ⟨rfl, h1, f1⟩
            have H31 := Lib.hid (H30.out.call Hd.out h1 f1)
            have HE31 := Lib.hid (HE30.out.fr f1 (Hd.out.ne HG30.out))
            have n31 := H31.out.num
            clear h1 f1
            refine hK.out _ _ n31 (fun hH31 => ?_)
            clear hK K
            try simp only [Act.put, lt0', lt1', lt2']
            refine wpAnyH_ready (rs := [11]) (by kernel_rfl) (by simp) ?_
            refine AllReadyH.cons (by simp only [lg0, lg1, lg2]; rfl) (fun K hK => ?_) AllReadyH.nil
            go_simp
            (go_at_call 35; refine (vFixAt r L (o + 33) 4 _ H31.out.rd (by decide)).mono ?_)
            rintro q u32 ⟨rfl, h1, f1⟩
            have H32 := Lib.hid (H31.out.call Hd.out h1 f1)
            have HE32 := Lib.hid (HE31.out.fr f1 (Hd.out.ne HG30.out))
            have n32 := H32.out.num
            clear h1 f1
            refine hK.out _ _ n32 (fun hH32 => ?_)
            clear hK K
            try simp only [Act.put, lt0', lt1', lt2']
            refine wpAnyH_ready (rs := [13]) (by kernel_rfl) (by simp) ?_
            refine AllReadyH.cons (by simp only [lg0, lg1, lg2]; rfl) (fun K hK => ?_) AllReadyH.nil
            go_simp
            (go_at_call 35; refine (vFixAt r L (o + 37) 4 _ H32.out.rd (by decide)).mono ?_)
            rintro q u33 ⟨rfl, h1, f1⟩
            have H33 := Lib.hid (H32.out.call Hd.out h1 f1)
            have HE33 := Lib.hid (HE32.out.fr f1 (Hd.out.ne HG30.out))
            have n33 := H33.out.num
            clear h1 f1
            refine hK.out _ _ n33 (fun hH33 => ?_)
            clear hK K
            try simp only [Act.put, lt0', lt1', lt2']
            refine wpAnyH_ready (rs := [15]) (by kernel_rfl) (by simp) ?_
            refine AllReadyH.cons (by simp only [lg0, lg1, lg2]; rfl) (fun K hK => ?_) AllReadyH.nil
            go_simp
            (go_at_call 36; refine (gSmall (bo + 1) r L (o + 41) _ H33.out.nm H33.out.rd).mono ?_)
            rintro q u34 ⟨rfl, h1, f1⟩
            have H34 := Lib.hid (H33.out.call Hd.out h1 f1)
            have HE34 := Lib.hid (HE33.out.fr f1 (Hd.out.ne HG30.out))
            have n34 := H34.out.num
            clear h1 f1
            refine hK.out _ _ n34 (fun hH34 => ?_)
            clear hK K
            try simp only [Act.put, lt0', lt1', lt2']
            refine wpAnyH_ready (rs := [17]) (by kernel_rfl) (by simp) ?_
            refine AllReadyH.cons (by simp only [lg0, lg1, lg2]; rfl) (fun K hK => ?_) AllReadyH.nil
            go_simp
            (go_at_call 36; refine (gSmall (bo + 1) r L (o + 42) _ H34.out.nm H34.out.rd).mono ?_)
            rintro q u35 ⟨rfl, h1, f1⟩
            have H35 := Lib.hid (H34.out.call Hd.out h1 f1)
            have HE35 := Lib.hid (HE34.out.fr f1 (Hd.out.ne HG30.out))
            have n35 := H35.out.num
            clear h1 f1
            refine hK.out _ _ n35 (fun hH35 => ?_)
            clear hK K
            try simp only [Act.put, lt0', lt1', lt2']
            refine tk 18 ?_
            simp only [Act.put, lt0', lt1', lt2']
            refine wpAnyH_ready (rs := [20]) (by kernel_rfl) (by simp) ?_
            refine AllReadyH.cons (by simp only [lg0, lg1, lg2]; rfl) (fun K hK => ?_) AllReadyH.nil
            go_simp
            refine stE HE35.out HG30.out H35.out Hd.out o ?_
            intro q0 q1 q2 q3 q4 q5 q6 q7 q8 q9 q10 z0 z1 z2 z3 z4 z5 z6 z7 z8 z9 z10 HY HW HZ
            go_simp
            refine hK.out _ _ HZ.out (fun hH36 => ?_)
            clear hK K
            refine wpAnyH_done (by kernel_rfl) ?_ _
            clear q0 z0 q1 z1 q2 z2 q3 z3 q4 z4 q5 z5 q6 z6 q7 z7 q8 z8 q9 z9 q10 z10
            go_wp2_with fail
            go_meet
            exact ⟨b30, rfl, HY.out, HG30.out, HW.out.bk, HW.out.rd, HW.out.nm, HW.out.fr⟩
          refine AllReadyH.cons (by simp only [lg0, lg1, lg2]; rfl) (fun K hK => ?_) AllReadyH.nil
          go_simp
          have H37 := Lib.hid (H3.out.new (.cells #[.int .u64 0, .int .u64 0, .int .i64 0, .int .u64 0, .int .u64 0, .int .u64 0, .int .u64 0, .int .i64 0, .int .i64 0, .string ⟨#[]⟩, .string ⟨#[]⟩] 24))
          have HE37 := Lib.hid (Blk.new u3 #[.int .u64 0, .int .u64 0, .int .i64 0, .int .u64 0, .int .u64 0, .int .u64 0, .int .u64 0, .int .i64 0, .int .i64 0, .string ⟨#[]⟩, .string ⟨#[]⟩] 24)
          have HG37 := Lib.hid H3.out.lt
          have n37 := H37.out.num
          refine hK.out _ _ n37 (fun hH37 => ?_)
          clear hK K
          try simp only [Act.put, lt0', lt1', lt2']
          generalize u3.alloc (.cells #[.int .u64 0, .int .u64 0, .int .i64 0, .int .u64 0, .int .u64 0, .int .u64 0, .int .u64 0, .int .i64 0, .int .i64 0, .string ⟨#[]⟩, .string ⟨#[]⟩] 24) = u37 at *
          generalize u3.heap.size = b37 at *
          refine wpAnyH_ready (rs := [7]) (by kernel_rfl) (by simp) ?_
          refine AllReadyH.cons (by simp only [lg0, lg1, lg2]; rfl) (fun K hK => ?_) AllReadyH.nil
          go_simp
          (go_at_call 35; refine (vFixAt r L (o + 17) 8 _ H37.out.rd (by decide)).mono ?_)
          rintro q u38 ⟨rfl, h1, f1⟩
          have H38 := Lib.hid (H37.out.call Hd.out h1 f1)
          have HE38 := Lib.hid (HE37.out.fr f1 (Hd.out.ne HG37.out))
          have n38 := H38.out.num
          clear h1 f1
          refine hK.out _ _ n38 (fun hH38 => ?_)
          clear hK K
          try simp only [Act.put, lt0', lt1', lt2']
          refine wpAnyH_ready (rs := [9]) (by kernel_rfl) (by simp) ?_
          refine AllReadyH.cons (by simp only [lg0, lg1, lg2]; rfl) (fun K hK => ?_) AllReadyH.nil
          go_simp
          (go_at_call 35; refine (vFixAt r L (o + 25) 8 _ H38.out.rd (by decide)).mono ?_)
          rintro q u39 ⟨rfl, h1, f1⟩
          have H39 := Lib.hid (H38.out.call Hd.out h1 f1)
          have HE39 := Lib.hid (HE38.out.fr f1 (Hd.out.ne HG37.out))
          have n39 := H39.out.num
          clear h1 f1
          refine hK.out _ _ n39 (fun hH39 => ?_)
          clear hK K
          try simp only [Act.put, lt0', lt1', lt2']
          refine wpAnyH_ready (rs := [11]) (by kernel_rfl) (by simp) ?_
          refine AllReadyH.cons (by simp only [lg0, lg1, lg2]; rfl) (fun K hK => ?_) AllReadyH.nil
          go_simp
          (go_at_call 35; refine (vFixAt r L (o + 33) 4 _ H39.out.rd (by decide)).mono ?_)
          rintro q u40 ⟨rfl, h1, f1⟩
          have H40 := Lib.hid (H39.out.call Hd.out h1 f1)
          have HE40 := Lib.hid (HE39.out.fr f1 (Hd.out.ne HG37.out))
          have n40 := H40.out.num
          clear h1 f1
          refine hK.out _ _ n40 (fun hH40 => ?_)
          clear hK K
          try simp only [Act.put, lt0', lt1', lt2']
          refine wpAnyH_ready (rs := [13]) (by kernel_rfl) (by simp) ?_
          refine AllReadyH.cons (by simp only [lg0, lg1, lg2]; rfl) (fun K hK => ?_) AllReadyH.nil
          go_simp
          (go_at_call 35; refine (vFixAt r L (o + 37) 4 _ H40.out.rd (by decide)).mono ?_)
          rintro q u41 ⟨rfl, h1, f1⟩
          have H41 := Lib.hid (H40.out.call Hd.out h1 f1)
          have HE41 := Lib.hid (HE40.out.fr f1 (Hd.out.ne HG37.out))
          have n41 := H41.out.num
          clear h1 f1
          refine hK.out _ _ n41 (fun hH41 => ?_)
          clear hK K
          try simp only [Act.put, lt0', lt1', lt2']
          refine wpAnyH_ready (rs := [15]) (by kernel_rfl) (by simp) ?_
          refine AllReadyH.cons (by simp only [lg0, lg1, lg2]; rfl) (fun K hK => ?_) AllReadyH.nil
          go_simp
          (go_at_call 36; refine (gSmall (bo + 1) r L (o + 41) _ H41.out.nm H41.out.rd).mono ?_)
          rintro q u42 ⟨rfl, h1, f1⟩
          have H42 := Lib.hid (H41.out.call Hd.out h1 f1)
          have HE42 := Lib.hid (HE41.out.fr f1 (Hd.out.ne HG37.out))
          have n42 := H42.out.num
          clear h1 f1
          refine hK.out _ _ n42 (fun hH42 => ?_)
          clear hK K
          try simp only [Act.put, lt0', lt1', lt2']
          refine wpAnyH_ready (rs := [17]) (by kernel_rfl) (by simp) ?_
          refine AllReadyH.cons (by simp only [lg0, lg1, lg2]; rfl) (fun K hK => ?_) AllReadyH.nil
          go_simp
          (go_at_call 36; refine (gSmall (bo + 1) r L (o + 42) _ H42.out.nm H42.out.rd).mono ?_)
          rintro q u43 ⟨rfl, h1, f1⟩
          have H43 := Lib.hid (H42.out.call Hd.out h1 f1)
          have HE43 := Lib.hid (HE42.out.fr f1 (Hd.out.ne HG37.out))
          have n43 := H43.out.num
          clear h1 f1
          refine hK.out _ _ n43 (fun hH43 => ?_)
          clear hK K
          try simp only [Act.put, lt0', lt1', lt2']
          refine tk 18 ?_
          simp only [Act.put, lt0', lt1', lt2']
          refine wpAnyH_ready (rs := [20]) (by kernel_rfl) (by simp) ?_
          refine AllReadyH.cons (by simp only [lg0, lg1, lg2]; rfl) (fun K hK => ?_) AllReadyH.nil
          go_simp
          refine stE HE43.out HG37.out H43.out Hd.out o ?_
          intro q0 q1 q2 q3 q4 q5 q6 q7 q8 q9 q10 z0 z1 z2 z3 z4 z5 z6 z7 z8 z9 z10 HY HW HZ
          go_simp
          refine hK.out _ _ HZ.out (fun hH44 => ?_)
          clear hK K
          refine wpAnyH_done (by kernel_rfl) ?_ _
          clear q0 z0 q1 z1 q2 z2 q3 z3 q4 z4 q5 z5 q6 z6 q7 z7 q8 z8 q9 z9 q10 z10
          go_wp2_with fail
          go_meet
          exact ⟨b37, rfl, HY.out, HG37.out, HW.out.bk, HW.out.rd, HW.out.nm, HW.out.fr⟩
        refine AllReadyH.cons (by simp only [lg0, lg1, lg2]; rfl) (fun K hK => ?_) AllReadyH.nil
        go_simp
        have H45 := Lib.hid (H2.out.new (.cells #[.int .u64 0, .int .u64 0, .int .i64 0, .int .u64 0, .int .u64 0, .int .u64 0, .int .u64 0, .int .i64 0, .int .i64 0, .string ⟨#[]⟩, .string ⟨#[]⟩] 24))
        have HE45 := Lib.hid (Blk.new u2 #[.int .u64 0, .int .u64 0, .int .i64 0, .int .u64 0, .int .u64 0, .int .u64 0, .int .u64 0, .int .i64 0, .int .i64 0, .string ⟨#[]⟩, .string ⟨#[]⟩] 24)
        have HG45 := Lib.hid H2.out.lt
        have n45 := H45.out.num
        refine hK.out _ _ n45 (fun hH45 => ?_)
        clear hK K
        try simp only [Act.put, lt0', lt1', lt2']
        generalize u2.alloc (.cells #[.int .u64 0, .int .u64 0, .int .i64 0, .int .u64 0, .int .u64 0, .int .u64 0, .int .u64 0, .int .i64 0, .int .i64 0, .string ⟨#[]⟩, .string ⟨#[]⟩] 24) = u45 at *
        generalize u2.heap.size = b45 at *
        refine wpAnyH_ready (rs := [5]) (by kernel_rfl) (by simp) ?_
        refine AllReadyH.cons (by simp only [lg0, lg1, lg2]; rfl) (fun K hK => ?_) AllReadyH.nil
        go_simp
        (go_at_call 35; refine (vFixAt r L (o + 9) 8 _ H45.out.rd (by decide)).mono ?_)
        rintro q u46 ⟨rfl, h1, f1⟩
        have H46 := Lib.hid (H45.out.call Hd.out h1 f1)
        have HE46 := Lib.hid (HE45.out.fr f1 (Hd.out.ne HG45.out))
        have n46 := H46.out.num
        clear h1 f1
        refine hK.out _ _ n46 (fun hH46 => ?_)
        clear hK K
        try simp only [Act.put, lt0', lt1', lt2']
        refine wpAnyH_ready (rs := [7]) (by kernel_rfl) (by simp) ?_
        refine AllReadyH.cons (by simp only [lg0, lg1, lg2]; rfl) (fun K hK => ?_) AllReadyH.nil
        go_simp
        (go_at_call 35; refine (vFixAt r L (o + 17) 8 _ H46.out.rd (by decide)).mono ?_)
        rintro q u47 ⟨rfl, h1, f1⟩
        have H47 := Lib.hid (H46.out.call Hd.out h1 f1)
        have HE47 := Lib.hid (HE46.out.fr f1 (Hd.out.ne HG45.out))
        have n47 := H47.out.num
        clear h1 f1
        refine hK.out _ _ n47 (fun hH47 => ?_)
        clear hK K
        try simp only [Act.put, lt0', lt1', lt2']
        refine wpAnyH_ready (rs := [9]) (by kernel_rfl) (by simp) ?_
        refine AllReadyH.cons (by simp only [lg0, lg1, lg2]; rfl) (fun K hK => ?_) AllReadyH.nil
        go_simp
        (go_at_call 35; refine (vFixAt r L (o + 25) 8 _ H47.out.rd (by decide)).mono ?_)
        rintro q u48 ⟨rfl, h1, f1⟩
        have H48 := Lib.hid (H47.out.call Hd.out h1 f1)
        have HE48 := Lib.hid (HE47.out.fr f1 (Hd.out.ne HG45.out))
        have n48 := H48.out.num
        clear h1 f1
        refine hK.out _ _ n48 (fun hH48 => ?_)
        clear hK K
        try simp only [Act.put, lt0', lt1', lt2']
        refine wpAnyH_ready (rs := [11]) (by kernel_rfl) (by simp) ?_
        refine AllReadyH.cons (by simp only [lg0, lg1, lg2]; rfl) (fun K hK => ?_) AllReadyH.nil
        go_simp
        (go_at_call 35; refine (vFixAt r L (o + 33) 4 _ H48.out.rd (by decide)).mono ?_)
        rintro q u49 ⟨rfl, h1, f1⟩
        have H49 := Lib.hid (H48.out.call Hd.out h1 f1)
        have HE49 := Lib.hid (HE48.out.fr f1 (Hd.out.ne HG45.out))
        have n49 := H49.out.num
        clear h1 f1
        refine hK.out _ _ n49 (fun hH49 => ?_)
        clear hK K
        try simp only [Act.put, lt0', lt1', lt2']
        refine wpAnyH_ready (rs := [13]) (by kernel_rfl) (by simp) ?_
        refine AllReadyH.cons (by simp only [lg0, lg1, lg2]; rfl) (fun K hK => ?_) AllReadyH.nil
        go_simp
        (go_at_call 35; refine (vFixAt r L (o + 37) 4 _ H49.out.rd (by decide)).mono ?_)
        rintro q u50 ⟨rfl, h1, f1⟩
        have H50 := Lib.hid (H49.out.call Hd.out h1 f1)
        have HE50 := Lib.hid (HE49.out.fr f1 (Hd.out.ne HG45.out))
        have n50 := H50.out.num
        clear h1 f1
        refine hK.out _ _ n50 (fun hH50 => ?_)
        clear hK K
        try simp only [Act.put, lt0', lt1', lt2']
        refine wpAnyH_ready (rs := [15]) (by kernel_rfl) (by simp) ?_
        refine AllReadyH.cons (by simp only [lg0, lg1, lg2]; rfl) (fun K hK => ?_) AllReadyH.nil
        go_simp
        (go_at_call 36; refine (gSmall (bo + 1) r L (o + 41) _ H50.out.nm H50.out.rd).mono ?_)
        rintro q u51 ⟨rfl, h1, f1⟩
        have H51 := Lib.hid (H50.out.call Hd.out h1 f1)
        have HE51 := Lib.hid (HE50.out.fr f1 (Hd.out.ne HG45.out))
        have n51 := H51.out.num
        clear h1 f1
        refine hK.out _ _ n51 (fun hH51 => ?_)
        clear hK K
        try simp only [Act.put, lt0', lt1', lt2']
        refine wpAnyH_ready (rs := [17]) (by kernel_rfl) (by simp) ?_
        refine AllReadyH.cons (by simp only [lg0, lg1, lg2]; rfl) (fun K hK => ?_) AllReadyH.nil
        go_simp
        (go_at_call 36; refine (gSmall (bo + 1) r L (o + 42) _ H51.out.nm H51.out.rd).mono ?_)
        rintro q u52 ⟨rfl, h1, f1⟩
        have H52 := Lib.hid (H51.out.call Hd.out h1 f1)
        have HE52 := Lib.hid (HE51.out.fr f1 (Hd.out.ne HG45.out))
        have n52 := H52.out.num
        clear h1 f1
        refine hK.out _ _ n52 (fun hH52 => ?_)
        clear hK K
        try simp only [Act.put, lt0', lt1', lt2']
        refine tk 18 ?_
        simp only [Act.put, lt0', lt1', lt2']
        refine wpAnyH_ready (rs := [20]) (by kernel_rfl) (by simp) ?_
        refine AllReadyH.cons (by simp only [lg0, lg1, lg2]; rfl) (fun K hK => ?_) AllReadyH.nil
        go_simp
        refine stE HE52.out HG45.out H52.out Hd.out o ?_
        intro q0 q1 q2 q3 q4 q5 q6 q7 q8 q9 q10 z0 z1 z2 z3 z4 z5 z6 z7 z8 z9 z10 HY HW HZ
        go_simp
        refine hK.out _ _ HZ.out (fun hH53 => ?_)
        clear hK K
        refine wpAnyH_done (by kernel_rfl) ?_ _
        clear q0 z0 q1 z1 q2 z2 q3 z3 q4 z4 q5 z5 q6 z6 q7 z7 q8 z8 q9 z9 q10 z10
        go_wp2_with fail
        go_meet
        exact ⟨b45, rfl, HY.out, HG45.out, HW.out.bk, HW.out.rd, HW.out.nm, HW.out.fr⟩
      refine AllReadyH.cons (by simp only [lg0, lg1, lg2]; rfl) (fun K hK => ?_) AllReadyH.nil
      go_simp
      have H54 := Lib.hid (H1.out.new (.cells #[.int .u64 0, .int .u64 0, .int .i64 0, .int .u64 0, .int .u64 0, .int .u64 0, .int .u64 0, .int .i64 0, .int .i64 0, .string ⟨#[]⟩, .string ⟨#[]⟩] 24))
      have HE54 := Lib.hid (Blk.new u1 #[.int .u64 0, .int .u64 0, .int .i64 0, .int .u64 0, .int .u64 0, .int .u64 0, .int .u64 0, .int .i64 0, .int .i64 0, .string ⟨#[]⟩, .string ⟨#[]⟩] 24)
      have HG54 := Lib.hid H1.out.lt
      have n54 := H54.out.num
      refine hK.out _ _ n54 (fun hH54 => ?_)
      clear hK K
      try simp only [Act.put, lt0', lt1', lt2']
      generalize u1.alloc (.cells #[.int .u64 0, .int .u64 0, .int .i64 0, .int .u64 0, .int .u64 0, .int .u64 0, .int .u64 0, .int .i64 0, .int .i64 0, .string ⟨#[]⟩, .string ⟨#[]⟩] 24) = u54 at *
      generalize u1.heap.size = b54 at *
      refine wpAnyH_ready (rs := [3]) (by kernel_rfl) (by simp) ?_
      refine AllReadyH.cons (by simp only [lg0, lg1, lg2]; rfl) (fun K hK => ?_) AllReadyH.nil
      go_simp
      (go_at_call 35; refine (vFixAt r L (o + 1) 8 _ H54.out.rd (by decide)).mono ?_)
      rintro q u55 ⟨rfl, h1, f1⟩
      have H55 := Lib.hid (H54.out.call Hd.out h1 f1)
      have HE55 := Lib.hid (HE54.out.fr f1 (Hd.out.ne HG54.out))
      have n55 := H55.out.num
      clear h1 f1
      refine hK.out _ _ n55 (fun hH55 => ?_)
      clear hK K
      try simp only [Act.put, lt0', lt1', lt2']
      refine wpAnyH_ready (rs := [5]) (by kernel_rfl) (by simp) ?_
      refine AllReadyH.cons (by simp only [lg0, lg1, lg2]; rfl) (fun K hK => ?_) AllReadyH.nil
      go_simp
      (go_at_call 35; refine (vFixAt r L (o + 9) 8 _ H55.out.rd (by decide)).mono ?_)
      rintro q u56 ⟨rfl, h1, f1⟩
      have H56 := Lib.hid (H55.out.call Hd.out h1 f1)
      have HE56 := Lib.hid (HE55.out.fr f1 (Hd.out.ne HG54.out))
      have n56 := H56.out.num
      clear h1 f1
      refine hK.out _ _ n56 (fun hH56 => ?_)
      clear hK K
      try simp only [Act.put, lt0', lt1', lt2']
      refine wpAnyH_ready (rs := [7]) (by kernel_rfl) (by simp) ?_
      refine AllReadyH.cons (by simp only [lg0, lg1, lg2]; rfl) (fun K hK => ?_) AllReadyH.nil
      go_simp
      (go_at_call 35; refine (vFixAt r L (o + 17) 8 _ H56.out.rd (by decide)).mono ?_)
      rintro q u57 ⟨rfl, h1, f1⟩
      have H57 := Lib.hid (H56.out.call Hd.out h1 f1)
      have HE57 := Lib.hid (HE56.out.fr f1 (Hd.out.ne HG54.out))
      have n57 := H57.out.num
      clear h1 f1
      refine hK.out _ _ n57 (fun hH57 => ?_)
      clear hK K
      try simp only [Act.put, lt0', lt1', lt2']
      refine wpAnyH_ready (rs := [9]) (by kernel_rfl) (by simp) ?_
      refine AllReadyH.cons (by simp only [lg0, lg1, lg2]; rfl) (fun K hK => ?_) AllReadyH.nil
      go_simp
      (go_at_call 35; refine (vFixAt r L (o + 25) 8 _ H57.out.rd (by decide)).mono ?_)
      rintro q u58 ⟨rfl, h1, f1⟩
      have H58 := Lib.hid (H57.out.call Hd.out h1 f1)
      have HE58 := Lib.hid (HE57.out.fr f1 (Hd.out.ne HG54.out))
      have n58 := H58.out.num
      clear h1 f1
      refine hK.out _ _ n58 (fun hH58 => ?_)
      clear hK K
      try simp only [Act.put, lt0', lt1', lt2']
      refine wpAnyH_ready (rs := [11]) (by kernel_rfl) (by simp) ?_
      refine AllReadyH.cons (by simp only [lg0, lg1, lg2]; rfl) (fun K hK => ?_) AllReadyH.nil
      go_simp
      (go_at_call 35; refine (vFixAt r L (o + 33) 4 _ H58.out.rd (by decide)).mono ?_)
      rintro q u59 ⟨rfl, h1, f1⟩
      have H59 := Lib.hid (H58.out.call Hd.out h1 f1)
      have HE59 := Lib.hid (HE58.out.fr f1 (Hd.out.ne HG54.out))
      have n59 := H59.out.num
      clear h1 f1
      refine hK.out _ _ n59 (fun hH59 => ?_)
      clear hK K
      try simp only [Act.put, lt0', lt1', lt2']
      refine wpAnyH_ready (rs := [13]) (by kernel_rfl) (by simp) ?_
      refine AllReadyH.cons (by simp only [lg0, lg1, lg2]; rfl) (fun K hK => ?_) AllReadyH.nil
      go_simp
      (go_at_call 35; refine (vFixAt r L (o + 37) 4 _ H59.out.rd (by decide)).mono ?_)
      rintro q u60 ⟨rfl, h1, f1⟩
      have H60 := Lib.hid (H59.out.call Hd.out h1 f1)
      have HE60 := Lib.hid (HE59.out.fr f1 (Hd.out.ne HG54.out))
      have n60 := H60.out.num
      clear h1 f1
      refine hK.out _ _ n60 (fun hH60 => ?_)
      clear hK K
      try simp only [Act.put, lt0', lt1', lt2']
      refine wpAnyH_ready (rs := [15]) (by kernel_rfl) (by simp) ?_
      refine AllReadyH.cons (by simp only [lg0, lg1, lg2]; rfl) (fun K hK => ?_) AllReadyH.nil
      go_simp
      (go_at_call 36; refine (gSmall (bo + 1) r L (o + 41) _ H60.out.nm H60.out.rd).mono ?_)
      rintro q u61 ⟨rfl, h1, f1⟩
      have H61 := Lib.hid (H60.out.call Hd.out h1 f1)
      have HE61 := Lib.hid (HE60.out.fr f1 (Hd.out.ne HG54.out))
      have n61 := H61.out.num
      clear h1 f1
      refine hK.out _ _ n61 (fun hH61 => ?_)
      clear hK K
      try simp only [Act.put, lt0', lt1', lt2']
      refine wpAnyH_ready (rs := [17]) (by kernel_rfl) (by simp) ?_
      refine AllReadyH.cons (by simp only [lg0, lg1, lg2]; rfl) (fun K hK => ?_) AllReadyH.nil
      go_simp
      (go_at_call 36; refine (gSmall (bo + 1) r L (o + 42) _ H61.out.nm H61.out.rd).mono ?_)
      rintro q u62 ⟨rfl, h1, f1⟩
      have H62 := Lib.hid (H61.out.call Hd.out h1 f1)
      have HE62 := Lib.hid (HE61.out.fr f1 (Hd.out.ne HG54.out))
      have n62 := H62.out.num
      clear h1 f1
      refine hK.out _ _ n62 (fun hH62 => ?_)
      clear hK K
      try simp only [Act.put, lt0', lt1', lt2']
      refine tk 18 ?_
      simp only [Act.put, lt0', lt1', lt2']
      refine wpAnyH_ready (rs := [20]) (by kernel_rfl) (by simp) ?_
      refine AllReadyH.cons (by simp only [lg0, lg1, lg2]; rfl) (fun K hK => ?_) AllReadyH.nil
      go_simp
      refine stE HE62.out HG54.out H62.out Hd.out o ?_
      intro q0 q1 q2 q3 q4 q5 q6 q7 q8 q9 q10 z0 z1 z2 z3 z4 z5 z6 z7 z8 z9 z10 HY HW HZ
      go_simp
      refine hK.out _ _ HZ.out (fun hH63 => ?_)
      clear hK K
      refine wpAnyH_done (by kernel_rfl) ?_ _
      clear q0 z0 q1 z1 q2 z2 q3 z3 q4 z4 q5 z5 q6 z6 q7 z7 q8 z8 q9 z9 q10 z10
      go_wp2_with fail
      go_meet
      exact ⟨b54, rfl, HY.out, HG54.out, HW.out.bk, HW.out.rd, HW.out.nm, HW.out.fr⟩
    refine AllReadyH.cons (by simp only [lg0, lg1, lg2]; rfl) (fun K hK => ?_) AllReadyH.nil
    go_simp
    have H64 := Lib.hid (H0.out.new (.cells #[.int .u64 0, .int .u64 0, .int .i64 0, .int .u64 0, .int .u64 0, .int .u64 0, .int .u64 0, .int .i64 0, .int .i64 0, .string ⟨#[]⟩, .string ⟨#[]⟩] 24))
    have HE64 := Lib.hid (Blk.new U0 #[.int .u64 0, .int .u64 0, .int .i64 0, .int .u64 0, .int .u64 0, .int .u64 0, .int .u64 0, .int .i64 0, .int .i64 0, .string ⟨#[]⟩, .string ⟨#[]⟩] 24)
    have HG64 := Lib.hid H0.out.lt
    have n64 := H64.out.num
    refine hK.out _ _ n64 (fun hH64 => ?_)
    clear hK K
    try simp only [Act.put, lt0', lt1', lt2']
    generalize U0.alloc (.cells #[.int .u64 0, .int .u64 0, .int .i64 0, .int .u64 0, .int .u64 0, .int .u64 0, .int .u64 0, .int .i64 0, .int .i64 0, .string ⟨#[]⟩, .string ⟨#[]⟩] 24) = u64 at *
    generalize U0.heap.size = b64 at *
    refine wpAnyH_ready (rs := [1]) (by kernel_rfl) (by simp) ?_
    refine AllReadyH.cons (by simp only [lg0, lg1, lg2]; rfl) (fun K hK => ?_) AllReadyH.nil
    go_simp
    (go_at_call 36; refine (gSmall (bo + 1) r L o _ H64.out.nm H64.out.rd).mono ?_)
    rintro q u65 ⟨rfl, h1, f1⟩
    have H65 := Lib.hid (H64.out.call Hd.out h1 f1)
    have HE65 := Lib.hid (HE64.out.fr f1 (Hd.out.ne HG64.out))
    have n65 := H65.out.num
    clear h1 f1
    refine hK.out _ _ n65 (fun hH65 => ?_)
    clear hK K
    try simp only [Act.put, lt0', lt1', lt2']
    refine wpAnyH_ready (rs := [3]) (by kernel_rfl) (by simp) ?_
    refine AllReadyH.cons (by simp only [lg0, lg1, lg2]; rfl) (fun K hK => ?_) AllReadyH.nil
    go_simp
    (go_at_call 35; refine (vFixAt r L (o + 1) 8 _ H65.out.rd (by decide)).mono ?_)
    rintro q u66 ⟨rfl, h1, f1⟩
    have H66 := Lib.hid (H65.out.call Hd.out h1 f1)
    have HE66 := Lib.hid (HE65.out.fr f1 (Hd.out.ne HG64.out))
    have n66 := H66.out.num
    clear h1 f1
    refine hK.out _ _ n66 (fun hH66 => ?_)
    clear hK K
    try simp only [Act.put, lt0', lt1', lt2']
    refine wpAnyH_ready (rs := [5]) (by kernel_rfl) (by simp) ?_
    refine AllReadyH.cons (by simp only [lg0, lg1, lg2]; rfl) (fun K hK => ?_) AllReadyH.nil
    go_simp
    (go_at_call 35; refine (vFixAt r L (o + 9) 8 _ H66.out.rd (by decide)).mono ?_)
    rintro q u67 ⟨rfl, h1, f1⟩
    have H67 := Lib.hid (H66.out.call Hd.out h1 f1)
    have HE67 := Lib.hid (HE66.out.fr f1 (Hd.out.ne HG64.out))
    have n67 := H67.out.num
    clear h1 f1
    refine hK.out _ _ n67 (fun hH67 => ?_)
    clear hK K
    try simp only [Act.put, lt0', lt1', lt2']
    refine wpAnyH_ready (rs := [7]) (by kernel_rfl) (by simp) ?_
    refine AllReadyH.cons (by simp only [lg0, lg1, lg2]; rfl) (fun K hK => ?_) AllReadyH.nil
    go_simp
    (go_at_call 35; refine (vFixAt r L (o + 17) 8 _ H67.out.rd (by decide)).mono ?_)
    rintro q u68 ⟨rfl, h1, f1⟩
    have H68 := Lib.hid (H67.out.call Hd.out h1 f1)
    have HE68 := Lib.hid (HE67.out.fr f1 (Hd.out.ne HG64.out))
    have n68 := H68.out.num
    clear h1 f1
    refine hK.out _ _ n68 (fun hH68 => ?_)
    clear hK K
    try simp only [Act.put, lt0', lt1', lt2']
    refine wpAnyH_ready (rs := [9]) (by kernel_rfl) (by simp) ?_
    refine AllReadyH.cons (by simp only [lg0, lg1, lg2]; rfl) (fun K hK => ?_) AllReadyH.nil
    go_simp
    (go_at_call 35; refine (vFixAt r L (o + 25) 8 _ H68.out.rd (by decide)).mono ?_)
    rintro q u69 ⟨rfl, h1, f1⟩
    have H69 := Lib.hid (H68.out.call Hd.out h1 f1)
    have HE69 := Lib.hid (HE68.out.fr f1 (Hd.out.ne HG64.out))
    have n69 := H69.out.num
    clear h1 f1
    refine hK.out _ _ n69 (fun hH69 => ?_)
    clear hK K
    try simp only [Act.put, lt0', lt1', lt2']
    refine wpAnyH_ready (rs := [11]) (by kernel_rfl) (by simp) ?_
    refine AllReadyH.cons (by simp only [lg0, lg1, lg2]; rfl) (fun K hK => ?_) AllReadyH.nil
    go_simp
    (go_at_call 35; refine (vFixAt r L (o + 33) 4 _ H69.out.rd (by decide)).mono ?_)
    rintro q u70 ⟨rfl, h1, f1⟩
    have H70 := Lib.hid (H69.out.call Hd.out h1 f1)
    have HE70 := Lib.hid (HE69.out.fr f1 (Hd.out.ne HG64.out))
    have n70 := H70.out.num
    clear h1 f1
    refine hK.out _ _ n70 (fun hH70 => ?_)
    clear hK K
    try simp only [Act.put, lt0', lt1', lt2']
    refine wpAnyH_ready (rs := [13]) (by kernel_rfl) (by simp) ?_
    refine AllReadyH.cons (by simp only [lg0, lg1, lg2]; rfl) (fun K hK => ?_) AllReadyH.nil
    go_simp
    (go_at_call 35; refine (vFixAt r L (o + 37) 4 _ H70.out.rd (by decide)).mono ?_)
    rintro q u71 ⟨rfl, h1, f1⟩
    have H71 := Lib.hid (H70.out.call Hd.out h1 f1)
    have HE71 := Lib.hid (HE70.out.fr f1 (Hd.out.ne HG64.out))
    have n71 := H71.out.num
    clear h1 f1
    refine hK.out _ _ n71 (fun hH71 => ?_)
    clear hK K
    try simp only [Act.put, lt0', lt1', lt2']
    refine wpAnyH_ready (rs := [15]) (by kernel_rfl) (by simp) ?_
    refine AllReadyH.cons (by simp only [lg0, lg1, lg2]; rfl) (fun K hK => ?_) AllReadyH.nil
    go_simp
    (go_at_call 36; refine (gSmall (bo + 1) r L (o + 41) _ H71.out.nm H71.out.rd).mono ?_)
    rintro q u72 ⟨rfl, h1, f1⟩
    have H72 := Lib.hid (H71.out.call Hd.out h1 f1)
    have HE72 := Lib.hid (HE71.out.fr f1 (Hd.out.ne HG64.out))
    have n72 := H72.out.num
    clear h1 f1
    refine hK.out _ _ n72 (fun hH72 => ?_)
    clear hK K
    try simp only [Act.put, lt0', lt1', lt2']
    refine wpAnyH_ready (rs := [17]) (by kernel_rfl) (by simp) ?_
    refine AllReadyH.cons (by simp only [lg0, lg1, lg2]; rfl) (fun K hK => ?_) AllReadyH.nil
    go_simp
    (go_at_call 36; refine (gSmall (bo + 1) r L (o + 42) _ H72.out.nm H72.out.rd).mono ?_)
    rintro q u73 ⟨rfl, h1, f1⟩
    have H73 := Lib.hid (H72.out.call Hd.out h1 f1)
    have HE73 := Lib.hid (HE72.out.fr f1 (Hd.out.ne HG64.out))
    have n73 := H73.out.num
    clear h1 f1
    refine hK.out _ _ n73 (fun hH73 => ?_)
    clear hK K
    try simp only [Act.put, lt0', lt1', lt2']
    refine tk 18 ?_
    simp only [Act.put, lt0', lt1', lt2']
    refine wpAnyH_ready (rs := [20]) (by kernel_rfl) (by simp) ?_
    refine AllReadyH.cons (by simp only [lg0, lg1, lg2]; rfl) (fun K hK => ?_) AllReadyH.nil
    go_simp
    refine stE HE73.out HG64.out H73.out Hd.out o ?_
    intro q0 q1 q2 q3 q4 q5 q6 q7 q8 q9 q10 z0 z1 z2 z3 z4 z5 z6 z7 z8 z9 z10 HY HW HZ
    go_simp
    refine hK.out _ _ HZ.out (fun hH74 => ?_)
    clear hK K
    refine wpAnyH_done (by kernel_rfl) ?_ _
    clear q0 z0 q1 z1 q2 z2 q3 z3 q4 z4 q5 z5 q6 z6 q7 z7 q8 z8 q9 z9 q10 z10
    go_wp2_with fail
    go_meet
    exact ⟨b64, rfl, HY.out, HG64.out, HW.out.bk, HW.out.rd, HW.out.nm, HW.out.fr⟩
  case rest =>
    obtain ⟨b5, rfl, HE0, HG0, HB0', HR1, HN1, HF1⟩ := hcut
    go_wp2_with fail
    refine (gSmall (bo + 1) r L (o + 43) _ HN1.out HR1.out).mono ?_
    rintro q v1 ⟨rfl, h1, f1⟩
    have HR2 := Lib.hid h1
    have HE1 := Lib.hid (HE0.out.fr f1 (by have := Hlt.out; have := HG0.out; simp; omega))
    have HB1 := Lib.hid (HB0'.out.fr f1 (by have := Hlt.out; simp; omega))
    have HF2 := Lib.hid (HF1.out.trans1 f1)
    clear h1 f1
    go_wp2_with fail
    refine (vBytesAt r L (o + 44) 66 _ HR2.out).mono ?_
    rintro q v2 ⟨rfl, h1, f1⟩
    have HR3 := Lib.hid h1
    have HE2 := Lib.hid (HE1.out.fr f1 (by have := Hlt.out; have := HG0.out; simp; omega))
    have HB2 := Lib.hid (HB1.out.fr f1 (by have := Hlt.out; simp; omega))
    have HF3 := Lib.hid (HF2.out.trans1 f1)
    clear h1 f1
    go_wp2_with fail
    refine (vOKAt r L (o + 110) _ HR3.out).mono ?_
    rintro q v3 ⟨rfl, rfl⟩
    by_cases hle : o + 110 ≤ L.length
    · rw [decide_eq_true hle]
      have hD : (strF L (o + 44) 66).length = 66 := by unfold strF; rw [if_pos (by omega)]; exact seg_length _ _ _ (by omega)
      have hn := numF_byte L (o + 43)
      have hm := mnI_le (numF L (o + 43) 1) 66
      obtain ⟨D, hDD⟩ : ∃ D, bs (strF L (o + 44) 66) = D := ⟨_, rfl⟩
      obtain ⟨cut, hcutn⟩ : ∃ c : Nat, mnI (numF L (o + 43) 1) 66 = (c : Int) := ⟨(mnI (numF L (o + 43) 1) 66).toNat, by omega⟩
      have hDs : D.size = 66 := by rw [← hDD, bs_size]; exact hD
      have hc66 : (cut : Int) ≤ 66 := by omega
      have HDD := Lib.hid hDD
      have HCut := Lib.hid hcutn
      have c0 : v2.cell? ⟨b5, 0, none⟩ = some (.int .u64 (numF L (o + 1) 8)) := HE2.out.cellAt (i := 0) rfl
      have c1 : v2.cell? ⟨b5, 1, none⟩ = some (.int .u64 (numF L (o + 9) 8)) := HE2.out.cellAt (i := 1) rfl
      have c2 : v2.cell? ⟨b5, 2, none⟩ = some (.int .i64 (numF L o 1)) := HE2.out.cellAt (i := 2) rfl
      have c3 : v2.cell? ⟨b5, 3, none⟩ = some (.int .u64 (numF L (o + 17) 8)) := HE2.out.cellAt (i := 3) rfl
      have c4 : v2.cell? ⟨b5, 4, none⟩ = some (.int .u64 (numF L (o + 25) 8)) := HE2.out.cellAt (i := 4) rfl
      have c5 : v2.cell? ⟨b5, 5, none⟩ = some (.int .u64 (numF L (o + 33) 4)) := HE2.out.cellAt (i := 5) rfl
      have c6 : v2.cell? ⟨b5, 6, none⟩ = some (.int .u64 (numF L (o + 37) 4)) := HE2.out.cellAt (i := 6) rfl
      have c7 : v2.cell? ⟨b5, 7, none⟩ = some (.int .i64 (numF L (o + 41) 1)) := HE2.out.cellAt (i := 7) rfl
      have c8 : v2.cell? ⟨b5, 8, none⟩ = some (.int .i64 (numF L (o + 42) 1)) := HE2.out.cellAt (i := 8) rfl
      have c9 : v2.cell? ⟨b5, 9, none⟩ = some (.string ⟨#[]⟩) := HE2.out.cellAt (i := 9) rfl
      have c10 : v2.cell? ⟨b5, 10, none⟩ = some (.string ⟨#[]⟩) := HE2.out.cellAt (i := 10) rfl
      have z9 := HE2.out.froz 9
      rw [hDD]
      clear hDD hD hm
      go_wp2_with fail
      obtain ⟨E0, hE0⟩ : ∃ E : Ent, (⟨numF L (o + 1) 8, numF L (o + 9) 8, numF L o 1, numF L (o + 17) 8, numF L (o + 25) 8, numF L (o + 33) 4, numF L (o + 37) 4, numF L (o + 41) 1, numF L (o + 42) 1, D.extract 0 cut, ⟨#[]⟩⟩ : Ent) = E := ⟨_, rfl⟩
      have HEe : Hid (E0 = ent5 (L.drop o)) := hE0.symm.trans (ent5_at L o cut D hle HDD.out HCut.out)
      have HEf : Hid E0.Fits := by show E0.Fits; rw [HEe.out]; exact ent5_fits _
      have hcE : E0.cells = #[.int .u64 (numF L (o + 1) 8), .int .u64 (numF L (o + 9) 8), .int .i64 (numF L o 1), .int .u64 (numF L (o + 17) 8), .int .u64 (numF L (o + 25) 8), .int .u64 (numF L (o + 33) 4), .int .u64 (numF L (o + 37) 4), .int .i64 (numF L (o + 41) 1), .int .i64 (numF L (o + 42) 1), .string (D.extract 0 cut), .string ⟨#[]⟩] := by rw [← hE0]; rfl
      have HRt := Lib.hid (fun w => eRight E0 w HEf.out)
      have HLv := Lib.hid (fun w => eLevel E0 w)
      rw [hcE] at HRt HLv
      have hcE := Lib.hid hcE
      have hDD' := HDD.out
      clear hE0
      refine (HRt.out _).mono ?_
      rintro q v4 ⟨rfl, f4⟩
      have HX9 : Hid (Fr [b5] v2 (v2.setCell ⟨b5, 9, none⟩ (.string (D.extract 0 cut)))) := (Fr.refl [b5] v2).setCell (.inl (by simp)) _
      have HE3 := Lib.hid (HE2.out.set 9 (.string (D.extract 0 cut)))
      have HR4 := Lib.hid ((HR3.out.fr HX9.out (by have := Hlt.out; have := HG0.out; simp; omega)).fr f4 (by simp))
      have HB4 := Lib.hid ((HB2.out.fr HX9.out (by have := HG0.out; simp; omega)).fr0 f4)
      have HF4 := Lib.hid ((HF3.out.trans HX9.out (fun x hx => by simp at hx; subst hx; right; have := Hw.out; have := HG0.out; omega)).trans0 f4)
      have HE4 := Lib.hid (HE3.out.fr0 f4)
      have HGo := Lib.hid (good5_at L o cut D E0 hle hDD' HCut.out HEe.out)
      rw [hDs] at HGo
      clear HX9 HE3 HE2 HB2 HF3 HR3 HE1 HB1 HR2 HF2 HR1 HN1 HF1 HE0 HB0' f4 z9 c0 c1 c2 c3 c4 c5 c6 c7 c8 c9 c10
      have c0 : v4.cell? ⟨b5, 0, none⟩ = some (.int .u64 (numF L (o + 1) 8)) := HE4.out.cellAt (i := 0) rfl
      have c1 : v4.cell? ⟨b5, 1, none⟩ = some (.int .u64 (numF L (o + 9) 8)) := HE4.out.cellAt (i := 1) rfl
      have c2 : v4.cell? ⟨b5, 2, none⟩ = some (.int .i64 (numF L o 1)) := HE4.out.cellAt (i := 2) rfl
      have c3 : v4.cell? ⟨b5, 3, none⟩ = some (.int .u64 (numF L (o + 17) 8)) := HE4.out.cellAt (i := 3) rfl
      have c4 : v4.cell? ⟨b5, 4, none⟩ = some (.int .u64 (numF L (o + 25) 8)) := HE4.out.cellAt (i := 4) rfl
      have c5 : v4.cell? ⟨b5, 5, none⟩ = some (.int .u64 (numF L (o + 33) 4)) := HE4.out.cellAt (i := 5) rfl
      have c6 : v4.cell? ⟨b5, 6, none⟩ = some (.int .u64 (numF L (o + 37) 4)) := HE4.out.cellAt (i := 6) rfl
      have c7 : v4.cell? ⟨b5, 7, none⟩ = some (.int .i64 (numF L (o + 41) 1)) := HE4.out.cellAt (i := 7) rfl
      have c8 : v4.cell? ⟨b5, 8, none⟩ = some (.int .i64 (numF L (o + 42) 1)) := HE4.out.cellAt (i := 8) rfl
      have c9 : v4.cell? ⟨b5, 9, none⟩ = some (.string (D.extract 0 cut)) := HE4.out.cellAt (i := 9) rfl
      have c10 : v4.cell? ⟨b5, 10, none⟩ = some (.string ⟨#[]⟩) := HE4.out.cellAt (i := 10) rfl
      rcases hok : E0.ok with _ | _
      all_goals rw [hok] at HGo
      · have HGt : Hid (get5 L o = (ent0, L.length + 1)) := get5_no L o (by rw [HGo.out]; rfl)
        go_wp2_with fail
        refine (vFailAt r L (o + 110) _ HR4.out).mono ?_
        rintro q v5 ⟨rfl, h9, f9⟩
        have HRx0 := Lib.hid h9
        have HBx := Lib.hid (HB4.out.fr f9 (by have := Hlt.out; simp; omega))
        have HFx := Lib.hid (HF4.out.trans1 f9)
        clear h9 f9
        have q0 : v5.cell? ⟨bo, 0, none⟩ = some (.int .u64 0) := HBx.out.cellAt (i := 0) rfl
        have z0 := HBx.out.froz 0
        have q1 : v5.cell? ⟨bo, 1, none⟩ = some (.int .u64 0) := HBx.out.cellAt (i := 1) rfl
        have z1 := HBx.out.froz 1
        have q2 : v5.cell? ⟨bo, 2, none⟩ = some (.int .i64 0) := HBx.out.cellAt (i := 2) rfl
        have z2 := HBx.out.froz 2
        have q3 : v5.cell? ⟨bo, 3, none⟩ = some (.int .u64 0) := HBx.out.cellAt (i := 3) rfl
        have z3 := HBx.out.froz 3
        have q4 : v5.cell? ⟨bo, 4, none⟩ = some (.int .u64 0) := HBx.out.cellAt (i := 4) rfl
        have z4 := HBx.out.froz 4
        have q5 : v5.cell? ⟨bo, 5, none⟩ = some (.int .u64 0) := HBx.out.cellAt (i := 5) rfl
        have z5 := HBx.out.froz 5
        have q6 : v5.cell? ⟨bo, 6, none⟩ = some (.int .u64 0) := HBx.out.cellAt (i := 6) rfl
        have z6 := HBx.out.froz 6
        have q7 : v5.cell? ⟨bo, 7, none⟩ = some (.int .i64 0) := HBx.out.cellAt (i := 7) rfl
        have z7 := HBx.out.froz 7
        have q8 : v5.cell? ⟨bo, 8, none⟩ = some (.int .i64 0) := HBx.out.cellAt (i := 8) rfl
        have z8 := HBx.out.froz 8
        have q9 : v5.cell? ⟨bo, 9, none⟩ = some (.string ⟨#[]⟩) := HBx.out.cellAt (i := 9) rfl
        have z9 := HBx.out.froz 9
        have q10 : v5.cell? ⟨bo, 10, none⟩ = some (.string ⟨#[]⟩) := HBx.out.cellAt (i := 10) rfl
        have z10 := HBx.out.froz 10
        have HX := Lib.hid (set11_fr v5 bo (.int .u64 0) (.int .u64 0) (.int .i64 0) (.int .u64 0) (.int .u64 0) (.int .u64 0) (.int .u64 0) (.int .i64 0) (.int .i64 0) (.string ⟨#[]⟩) (.string ⟨#[]⟩))
        have HY : Hid (Blk (set11 v5 bo (.int .u64 0) (.int .u64 0) (.int .i64 0) (.int .u64 0) (.int .u64 0) (.int .u64 0) (.int .u64 0) (.int .i64 0) (.int .i64 0) (.string ⟨#[]⟩) (.string ⟨#[]⟩)) bo #[.int .u64 0, .int .u64 0, .int .i64 0, .int .u64 0, .int .u64 0, .int .u64 0, .int .u64 0, .int .i64 0, .int .i64 0, .string ⟨#[]⟩, .string ⟨#[]⟩] 24) := HBx.out.put11 _ _ _ _ _ _ _ _ _ _ _
        have HRx := Lib.hid (HRx0.out.fr HX.out (by have := Hlt.out; simp; omega))
        go_wp2_with fail
        obtain ⟨X, hX⟩ : ∃ X, set11 v5 bo (.int .u64 0) (.int .u64 0) (.int .i64 0) (.int .u64 0) (.int .u64 0) (.int .u64 0) (.int .u64 0) (.int .i64 0) (.int .i64 0) (.string ⟨#[]⟩) (.string ⟨#[]⟩) = X := ⟨_, rfl⟩
        rw [hX] at HX HY HRx
        have y0 : X.cell? ⟨bo, 0, none⟩ = some (.int .u64 0) := HY.out.cellAt (i := 0) rfl
        have y1 : X.cell? ⟨bo, 1, none⟩ = some (.int .u64 0) := HY.out.cellAt (i := 1) rfl
        have y2 : X.cell? ⟨bo, 2, none⟩ = some (.int .i64 0) := HY.out.cellAt (i := 2) rfl
        have y3 : X.cell? ⟨bo, 3, none⟩ = some (.int .u64 0) := HY.out.cellAt (i := 3) rfl
        have y4 : X.cell? ⟨bo, 4, none⟩ = some (.int .u64 0) := HY.out.cellAt (i := 4) rfl
        have y5 : X.cell? ⟨bo, 5, none⟩ = some (.int .u64 0) := HY.out.cellAt (i := 5) rfl
        have y6 : X.cell? ⟨bo, 6, none⟩ = some (.int .u64 0) := HY.out.cellAt (i := 6) rfl
        have y7 : X.cell? ⟨bo, 7, none⟩ = some (.int .i64 0) := HY.out.cellAt (i := 7) rfl
        have y8 : X.cell? ⟨bo, 8, none⟩ = some (.int .i64 0) := HY.out.cellAt (i := 8) rfl
        have y9 : X.cell? ⟨bo, 9, none⟩ = some (.string ⟨#[]⟩) := HY.out.cellAt (i := 9) rfl
        have y10 : X.cell? ⟨bo, 10, none⟩ = some (.string ⟨#[]⟩) := HY.out.cellAt (i := 10) rfl
        unfold set11 at hX
        rw [hX]
        clear hX q0 z0 q1 z1 q2 z2 q3 z3 q4 z4 q5 z5 q6 z6 q7 z7 q8 z8 q9 z9 q10 z10
        refine bodyPost_ret (v := .agg #[.int .u64 0, .int .u64 0, .int .i64 0, .int .u64 0, .int .u64 0, .int .u64 0, .int .u64 0, .int .i64 0, .int .i64 0, .string ⟨#[]⟩, .string ⟨#[]⟩]) (by simp [results, Tryd.results14, go_sem, y0, y1, y2, y3, y4, y5, y6, y7, y8, y9, y10]) rfl ?_
        rw [HGt.out]
        exact ⟨rfl, HRx.out, HFx.out.trans HX.out (fun x hx => by simp at hx; subst hx; right; have h9 := Hw.out; omega)⟩
      · have hlv2 : E0.lvl = 1 ∨ E0.lvl = 2 := by unfold Ent.lvl; split <;> simp
        rcases hlv2 with hlv | hlv
        all_goals rw [hlv] at HGo
        · rw [hlv] at HLv
          go_wp2_with fail
          refine (HLv.out _).mono ?_
          rintro q v5 ⟨rfl, f5⟩
          have HR5 := Lib.hid (HR4.out.fr f5 (by simp))
          have HB5 := Lib.hid (HB4.out.fr0 f5)
          have HF5 := Lib.hid (HF4.out.trans0 f5)
          have HE5 := Lib.hid (HE4.out.fr0 f5)
          clear f5 HE4 HB4 HF4 HR4 c0 c1 c2 c3 c4 c5 c6 c7 c8 c9 c10
          go_wp2_with fail
          refine (Tryd.strings_Trim_one (D.extract cut 66) 0 (by decide) _ (by rw [ByteArray.size_extract]; omega)).mono ?_
          rintro q v6 ⟨rfl, h6⟩
          have f6 : Fr [] v5 v6 := h6.elim (fun h => by rw [h]; exact Fr.refl _ _) (fun h => by rw [h]; exact (Fr.refl [] _).drew)
          have HR6 := Lib.hid (HR5.out.fr f6 (by simp))
          have HB6 := Lib.hid (HB5.out.fr0 f6)
          have HF6 := Lib.hid (HF5.out.trans0 f6)
          have HE6 := Lib.hid (HE5.out.fr0 f6)
          clear f6 h6 HE5 HB5 HF5 HR5
          by_cases htr : Lib.trimB (D.extract cut 66).data.toList 0 = []
          · have HGt : Hid (get5 L o = (E0, o + 110)) := get5_yes L o E0 hle (by rw [HGo.out, decide_eq_true htr]; rfl) HEe.out
            rw [htr]
            have c0 : v6.cell? ⟨b5, 0, none⟩ = some (.int .u64 (numF L (o + 1) 8)) := HE6.out.cellAt (i := 0) rfl
            have c1 : v6.cell? ⟨b5, 1, none⟩ = some (.int .u64 (numF L (o + 9) 8)) := HE6.out.cellAt (i := 1) rfl
            have c2 : v6.cell? ⟨b5, 2, none⟩ = some (.int .i64 (numF L o 1)) := HE6.out.cellAt (i := 2) rfl
            have c3 : v6.cell? ⟨b5, 3, none⟩ = some (.int .u64 (numF L (o + 17) 8)) := HE6.out.cellAt (i := 3) rfl
            have c4 : v6.cell? ⟨b5, 4, none⟩ = some (.int .u64 (numF L (o + 25) 8)) := HE6.out.cellAt (i := 4) rfl
            have c5 : v6.cell? ⟨b5, 5, none⟩ = some (.int .u64 (numF L (o + 33) 4)) := HE6.out.cellAt (i := 5) rfl
            have c6 : v6.cell? ⟨b5, 6, none⟩ = some (.int .u64 (numF L (o + 37) 4)) := HE6.out.cellAt (i := 6) rfl
            have c7 : v6.cell? ⟨b5, 7, none⟩ = some (.int .i64 (numF L (o + 41) 1)) := HE6.out.cellAt (i := 7) rfl
            have c8 : v6.cell? ⟨b5, 8, none⟩ = some (.int .i64 (numF L (o + 42) 1)) := HE6.out.cellAt (i := 8) rfl
            have c9 : v6.cell? ⟨b5, 9, none⟩ = some (.string (D.extract 0 cut)) := HE6.out.cellAt (i := 9) rfl
            have c10 : v6.cell? ⟨b5, 10, none⟩ = some (.string ⟨#[]⟩) := HE6.out.cellAt (i := 10) rfl
            clear htr HGo
            have q0 : v6.cell? ⟨bo, 0, none⟩ = some (.int .u64 0) := HB6.out.cellAt (i := 0) rfl
            have z0 := HB6.out.froz 0
            have q1 : v6.cell? ⟨bo, 1, none⟩ = some (.int .u64 0) := HB6.out.cellAt (i := 1) rfl
            have z1 := HB6.out.froz 1
            have q2 : v6.cell? ⟨bo, 2, none⟩ = some (.int .i64 0) := HB6.out.cellAt (i := 2) rfl
            have z2 := HB6.out.froz 2
            have q3 : v6.cell? ⟨bo, 3, none⟩ = some (.int .u64 0) := HB6.out.cellAt (i := 3) rfl
            have z3 := HB6.out.froz 3
            have q4 : v6.cell? ⟨bo, 4, none⟩ = some (.int .u64 0) := HB6.out.cellAt (i := 4) rfl
            have z4 := HB6.out.froz 4
            have q5 : v6.cell? ⟨bo, 5, none⟩ = some (.int .u64 0) := HB6.out.cellAt (i := 5) rfl
            have z5 := HB6.out.froz 5
            have q6 : v6.cell? ⟨bo, 6, none⟩ = some (.int .u64 0) := HB6.out.cellAt (i := 6) rfl
            have z6 := HB6.out.froz 6
            have q7 : v6.cell? ⟨bo, 7, none⟩ = some (.int .i64 0) := HB6.out.cellAt (i := 7) rfl
            have z7 := HB6.out.froz 7
            have q8 : v6.cell? ⟨bo, 8, none⟩ = some (.int .i64 0) := HB6.out.cellAt (i := 8) rfl
            have z8 := HB6.out.froz 8
            have q9 : v6.cell? ⟨bo, 9, none⟩ = some (.string ⟨#[]⟩) := HB6.out.cellAt (i := 9) rfl
            have z9 := HB6.out.froz 9
            have q10 : v6.cell? ⟨bo, 10, none⟩ = some (.string ⟨#[]⟩) := HB6.out.cellAt (i := 10) rfl
            have z10 := HB6.out.froz 10
            have HX := Lib.hid (set11_fr v6 bo (.int .u64 (numF L (o + 1) 8)) (.int .u64 (numF L (o + 9) 8)) (.int .i64 (numF L o 1)) (.int .u64 (numF L (o + 17) 8)) (.int .u64 (numF L (o + 25) 8)) (.int .u64 (numF L (o + 33) 4)) (.int .u64 (numF L (o + 37) 4)) (.int .i64 (numF L (o + 41) 1)) (.int .i64 (numF L (o + 42) 1)) (.string (D.extract 0 cut)) (.string ⟨#[]⟩))
            have HY : Hid (Blk (set11 v6 bo (.int .u64 (numF L (o + 1) 8)) (.int .u64 (numF L (o + 9) 8)) (.int .i64 (numF L o 1)) (.int .u64 (numF L (o + 17) 8)) (.int .u64 (numF L (o + 25) 8)) (.int .u64 (numF L (o + 33) 4)) (.int .u64 (numF L (o + 37) 4)) (.int .i64 (numF L (o + 41) 1)) (.int .i64 (numF L (o + 42) 1)) (.string (D.extract 0 cut)) (.string ⟨#[]⟩)) bo #[.int .u64 (numF L (o + 1) 8), .int .u64 (numF L (o + 9) 8), .int .i64 (numF L o 1), .int .u64 (numF L (o + 17) 8), .int .u64 (numF L (o + 25) 8), .int .u64 (numF L (o + 33) 4), .int .u64 (numF L (o + 37) 4), .int .i64 (numF L (o + 41) 1), .int .i64 (numF L (o + 42) 1), .string (D.extract 0 cut), .string ⟨#[]⟩] 24) := HB6.out.put11 _ _ _ _ _ _ _ _ _ _ _
            have HRx := Lib.hid (HR6.out.fr HX.out (by have := Hlt.out; simp; omega))
            go_wp2_with fail
            obtain ⟨X, hX⟩ : ∃ X, set11 v6 bo (.int .u64 (numF L (o + 1) 8)) (.int .u64 (numF L (o + 9) 8)) (.int .i64 (numF L o 1)) (.int .u64 (numF L (o + 17) 8)) (.int .u64 (numF L (o + 25) 8)) (.int .u64 (numF L (o + 33) 4)) (.int .u64 (numF L (o + 37) 4)) (.int .i64 (numF L (o + 41) 1)) (.int .i64 (numF L (o + 42) 1)) (.string (D.extract 0 cut)) (.string ⟨#[]⟩) = X := ⟨_, rfl⟩
            rw [hX] at HX HY HRx
            have y0 : X.cell? ⟨bo, 0, none⟩ = some (.int .u64 (numF L (o + 1) 8)) := HY.out.cellAt (i := 0) rfl
            have y1 : X.cell? ⟨bo, 1, none⟩ = some (.int .u64 (numF L (o + 9) 8)) := HY.out.cellAt (i := 1) rfl
            have y2 : X.cell? ⟨bo, 2, none⟩ = some (.int .i64 (numF L o 1)) := HY.out.cellAt (i := 2) rfl
            have y3 : X.cell? ⟨bo, 3, none⟩ = some (.int .u64 (numF L (o + 17) 8)) := HY.out.cellAt (i := 3) rfl
            have y4 : X.cell? ⟨bo, 4, none⟩ = some (.int .u64 (numF L (o + 25) 8)) := HY.out.cellAt (i := 4) rfl
            have y5 : X.cell? ⟨bo, 5, none⟩ = some (.int .u64 (numF L (o + 33) 4)) := HY.out.cellAt (i := 5) rfl
            have y6 : X.cell? ⟨bo, 6, none⟩ = some (.int .u64 (numF L (o + 37) 4)) := HY.out.cellAt (i := 6) rfl
            have y7 : X.cell? ⟨bo, 7, none⟩ = some (.int .i64 (numF L (o + 41) 1)) := HY.out.cellAt (i := 7) rfl
            have y8 : X.cell? ⟨bo, 8, none⟩ = some (.int .i64 (numF L (o + 42) 1)) := HY.out.cellAt (i := 8) rfl
            have y9 : X.cell? ⟨bo, 9, none⟩ = some (.string (D.extract 0 cut)) := HY.out.cellAt (i := 9) rfl
            have y10 : X.cell? ⟨bo, 10, none⟩ = some (.string ⟨#[]⟩) := HY.out.cellAt (i := 10) rfl
            unfold set11 at hX
            rw [hX]
            clear hX q0 z0 q1 z1 q2 z2 q3 z3 q4 z4 q5 z5 q6 z6 q7 z7 q8 z8 q9 z9 q10 z10
            refine bodyPost_ret (v := .agg #[.int .u64 (numF L (o + 1) 8), .int .u64 (numF L (o + 9) 8), .int .i64 (numF L o 1), .int .u64 (numF L (o + 17) 8), .int .u64 (numF L (o + 25) 8), .int .u64 (numF L (o + 33) 4), .int .u64 (numF L (o + 37) 4), .int .i64 (numF L (o + 41) 1), .int .i64 (numF L (o + 42) 1), .string (D.extract 0 cut), .string ⟨#[]⟩]) (by simp [results, Tryd.results14, go_sem, y0, y1, y2, y3, y4, y5, y6, y7, y8, y9, y10]) rfl ?_
            rw [HGt.out]
            exact ⟨congrArg (fun c => Ending.returned (.agg c)) hcE.out.symm, HRx.out, HF6.out.trans HX.out (fun x hx => by simp at hx; subst hx; right; have h9 := Hw.out; omega)⟩
          · have HGt : Hid (get5 L o = (ent0, L.length + 1)) := get5_no L o (by rw [HGo.out, decide_eq_false htr]; rfl)
            clear HGo
            generalize Lib.trimB (D.extract cut 66).data.toList 0 = T at *
            have hT1 : T.isEmpty = false := by cases T with | nil => exact absurd rfl htr | cons a t => rfl
            clear htr
            go_wp2_with fail
            refine (vFailAt r L (o + 110) _ HR6.out).mono ?_
            rintro q v7 ⟨rfl, h9, f9⟩
            have HRx0 := Lib.hid h9
            have HBx := Lib.hid (HB6.out.fr f9 (by have := Hlt.out; simp; omega))
            have HFx := Lib.hid (HF6.out.trans1 f9)
            clear h9 f9
            have q0 : v7.cell? ⟨bo, 0, none⟩ = some (.int .u64 0) := HBx.out.cellAt (i := 0) rfl
            have z0 := HBx.out.froz 0
            have q1 : v7.cell? ⟨bo, 1, none⟩ = some (.int .u64 0) := HBx.out.cellAt (i := 1) rfl
            have z1 := HBx.out.froz 1
            have q2 : v7.cell? ⟨bo, 2, none⟩ = some (.int .i64 0) := HBx.out.cellAt (i := 2) rfl
            have z2 := HBx.out.froz 2
            have q3 : v7.cell? ⟨bo, 3, none⟩ = some (.int .u64 0) := HBx.out.cellAt (i := 3) rfl
            have z3 := HBx.out.froz 3
            have q4 : v7.cell? ⟨bo, 4, none⟩ = some (.int .u64 0) := HBx.out.cellAt (i := 4) rfl
            have z4 := HBx.out.froz 4
            have q5 : v7.cell? ⟨bo, 5, none⟩ = some (.int .u64 0) := HBx.out.cellAt (i := 5) rfl
            have z5 := HBx.out.froz 5
            have q6 : v7.cell? ⟨bo, 6, none⟩ = some (.int .u64 0) := HBx.out.cellAt (i := 6) rfl
            have z6 := HBx.out.froz 6
            have q7 : v7.cell? ⟨bo, 7, none⟩ = some (.int .i64 0) := HBx.out.cellAt (i := 7) rfl
            have z7 := HBx.out.froz 7
            have q8 : v7.cell? ⟨bo, 8, none⟩ = some (.int .i64 0) := HBx.out.cellAt (i := 8) rfl
            have z8 := HBx.out.froz 8
            have q9 : v7.cell? ⟨bo, 9, none⟩ = some (.string ⟨#[]⟩) := HBx.out.cellAt (i := 9) rfl
            have z9 := HBx.out.froz 9
            have q10 : v7.cell? ⟨bo, 10, none⟩ = some (.string ⟨#[]⟩) := HBx.out.cellAt (i := 10) rfl
            have z10 := HBx.out.froz 10
            have HX := Lib.hid (set11_fr v7 bo (.int .u64 0) (.int .u64 0) (.int .i64 0) (.int .u64 0) (.int .u64 0) (.int .u64 0) (.int .u64 0) (.int .i64 0) (.int .i64 0) (.string ⟨#[]⟩) (.string ⟨#[]⟩))
            have HY : Hid (Blk (set11 v7 bo (.int .u64 0) (.int .u64 0) (.int .i64 0) (.int .u64 0) (.int .u64 0) (.int .u64 0) (.int .u64 0) (.int .i64 0) (.int .i64 0) (.string ⟨#[]⟩) (.string ⟨#[]⟩)) bo #[.int .u64 0, .int .u64 0, .int .i64 0, .int .u64 0, .int .u64 0, .int .u64 0, .int .u64 0, .int .i64 0, .int .i64 0, .string ⟨#[]⟩, .string ⟨#[]⟩] 24) := HBx.out.put11 _ _ _ _ _ _ _ _ _ _ _
            have HRx := Lib.hid (HRx0.out.fr HX.out (by have := Hlt.out; simp; omega))
            go_wp2_with fail
            obtain ⟨X, hX⟩ : ∃ X, set11 v7 bo (.int .u64 0) (.int .u64 0) (.int .i64 0) (.int .u64 0) (.int .u64 0) (.int .u64 0) (.int .u64 0) (.int .i64 0) (.int .i64 0) (.string ⟨#[]⟩) (.string ⟨#[]⟩) = X := ⟨_, rfl⟩
            rw [hX] at HX HY HRx
            have y0 : X.cell? ⟨bo, 0, none⟩ = some (.int .u64 0) := HY.out.cellAt (i := 0) rfl
            have y1 : X.cell? ⟨bo, 1, none⟩ = some (.int .u64 0) := HY.out.cellAt (i := 1) rfl
            have y2 : X.cell? ⟨bo, 2, none⟩ = some (.int .i64 0) := HY.out.cellAt (i := 2) rfl
            have y3 : X.cell? ⟨bo, 3, none⟩ = some (.int .u64 0) := HY.out.cellAt (i := 3) rfl
            have y4 : X.cell? ⟨bo, 4, none⟩ = some (.int .u64 0) := HY.out.cellAt (i := 4) rfl
            have y5 : X.cell? ⟨bo, 5, none⟩ = some (.int .u64 0) := HY.out.cellAt (i := 5) rfl
            have y6 : X.cell? ⟨bo, 6, none⟩ = some (.int .u64 0) := HY.out.cellAt (i := 6) rfl
            have y7 : X.cell? ⟨bo, 7, none⟩ = some (.int .i64 0) := HY.out.cellAt (i := 7) rfl
            have y8 : X.cell? ⟨bo, 8, none⟩ = some (.int .i64 0) := HY.out.cellAt (i := 8) rfl
            have y9 : X.cell? ⟨bo, 9, none⟩ = some (.string ⟨#[]⟩) := HY.out.cellAt (i := 9) rfl
            have y10 : X.cell? ⟨bo, 10, none⟩ = some (.string ⟨#[]⟩) := HY.out.cellAt (i := 10) rfl
            unfold set11 at hX
            rw [hX]
            clear hX q0 z0 q1 z1 q2 z2 q3 z3 q4 z4 q5 z5 q6 z6 q7 z7 q8 z8 q9 z9 q10 z10
            refine bodyPost_ret (v := .agg #[.int .u64 0, .int .u64 0, .int .i64 0, .int .u64 0, .int .u64 0, .int .u64 0, .int .u64 0, .int .i64 0, .int .i64 0, .string ⟨#[]⟩, .string ⟨#[]⟩]) (by simp [results, Tryd.results14, go_sem, y0, y1, y2, y3, y4, y5, y6, y7, y8, y9, y10]) rfl ?_
            rw [HGt.out]
            exact ⟨rfl, HRx.out, HFx.out.trans HX.out (fun x hx => by simp at hx; subst hx; right; have h9 := Hw.out; omega)⟩
        · have HGt : Hid (get5 L o = (ent0, L.length + 1)) := get5_no L o (by rw [HGo.out]; rfl)
          rw [hlv] at HLv
          go_wp2_with fail
          refine (HLv.out _).mono ?_
          rintro q v5 ⟨rfl, f5⟩
          have HR5 := Lib.hid (HR4.out.fr f5 (by simp))
          have HB5 := Lib.hid (HB4.out.fr0 f5)
          have HF5 := Lib.hid (HF4.out.trans0 f5)
          clear f5 c0 c1 c2 c3 c4 c5 c6 c7 c8 c9 c10
          go_wp2_with fail
          refine (vFailAt r L (o + 110) _ HR5.out).mono ?_
          rintro q v6 ⟨rfl, h9, f9⟩
          have HRx0 := Lib.hid h9
          have HBx := Lib.hid (HB5.out.fr f9 (by have := Hlt.out; simp; omega))
          have HFx := Lib.hid (HF5.out.trans1 f9)
          clear h9 f9
          have q0 : v6.cell? ⟨bo, 0, none⟩ = some (.int .u64 0) := HBx.out.cellAt (i := 0) rfl
          have z0 := HBx.out.froz 0
          have q1 : v6.cell? ⟨bo, 1, none⟩ = some (.int .u64 0) := HBx.out.cellAt (i := 1) rfl
          have z1 := HBx.out.froz 1
          have q2 : v6.cell? ⟨bo, 2, none⟩ = some (.int .i64 0) := HBx.out.cellAt (i := 2) rfl
          have z2 := HBx.out.froz 2
          have q3 : v6.cell? ⟨bo, 3, none⟩ = some (.int .u64 0) := HBx.out.cellAt (i := 3) rfl
          have z3 := HBx.out.froz 3
          have q4 : v6.cell? ⟨bo, 4, none⟩ = some (.int .u64 0) := HBx.out.cellAt (i := 4) rfl
          have z4 := HBx.out.froz 4
          have q5 : v6.cell? ⟨bo, 5, none⟩ = some (.int .u64 0) := HBx.out.cellAt (i := 5) rfl
          have z5 := HBx.out.froz 5
          have q6 : v6.cell? ⟨bo, 6, none⟩ = some (.int .u64 0) := HBx.out.cellAt (i := 6) rfl
          have z6 := HBx.out.froz 6
          have q7 : v6.cell? ⟨bo, 7, none⟩ = some (.int .i64 0) := HBx.out.cellAt (i := 7) rfl
          have z7 := HBx.out.froz 7
          have q8 : v6.cell? ⟨bo, 8, none⟩ = some (.int .i64 0) := HBx.out.cellAt (i := 8) rfl
          have z8 := HBx.out.froz 8
          have q9 : v6.cell? ⟨bo, 9, none⟩ = some (.string ⟨#[]⟩) := HBx.out.cellAt (i := 9) rfl
          have z9 := HBx.out.froz 9
          have q10 : v6.cell? ⟨bo, 10, none⟩ = some (.string ⟨#[]⟩) := HBx.out.cellAt (i := 10) rfl
          have z10 := HBx.out.froz 10
          have HX := Lib.hid (set11_fr v6 bo (.int .u64 0) (.int .u64 0) (.int .i64 0) (.int .u64 0) (.int .u64 0) (.int .u64 0) (.int .u64 0) (.int .i64 0) (.int .i64 0) (.string ⟨#[]⟩) (.string ⟨#[]⟩))
          have HY : Hid (Blk (set11 v6 bo (.int .u64 0) (.int .u64 0) (.int .i64 0) (.int .u64 0) (.int .u64 0) (.int .u64 0) (.int .u64 0) (.int .i64 0) (.int .i64 0) (.string ⟨#[]⟩) (.string ⟨#[]⟩)) bo #[.int .u64 0, .int .u64 0, .int .i64 0, .int .u64 0, .int .u64 0, .int .u64 0, .int .u64 0, .int .i64 0, .int .i64 0, .string ⟨#[]⟩, .string ⟨#[]⟩] 24) := HBx.out.put11 _ _ _ _ _ _ _ _ _ _ _
          have HRx := Lib.hid (HRx0.out.fr HX.out (by have := Hlt.out; simp; omega))
          go_wp2_with fail
          obtain ⟨X, hX⟩ : ∃ X, set11 v6 bo (.int .u64 0) (.int .u64 0) (.int .i64 0) (.int .u64 0) (.int .u64 0) (.int .u64 0) (.int .u64 0) (.int .i64 0) (.int .i64 0) (.string ⟨#[]⟩) (.string ⟨#[]⟩) = X := ⟨_, rfl⟩
          rw [hX] at HX HY HRx
          have y0 : X.cell? ⟨bo, 0, none⟩ = some (.int .u64 0) := HY.out.cellAt (i := 0) rfl
          have y1 : X.cell? ⟨bo, 1, none⟩ = some (.int .u64 0) := HY.out.cellAt (i := 1) rfl
          have y2 : X.cell? ⟨bo, 2, none⟩ = some (.int .i64 0) := HY.out.cellAt (i := 2) rfl
          have y3 : X.cell? ⟨bo, 3, none⟩ = some (.int .u64 0) := HY.out.cellAt (i := 3) rfl
          have y4 : X.cell? ⟨bo, 4, none⟩ = some (.int .u64 0) := HY.out.cellAt (i := 4) rfl
          have y5 : X.cell? ⟨bo, 5, none⟩ = some (.int .u64 0) := HY.out.cellAt (i := 5) rfl
          have y6 : X.cell? ⟨bo, 6, none⟩ = some (.int .u64 0) := HY.out.cellAt (i := 6) rfl
          have y7 : X.cell? ⟨bo, 7, none⟩ = some (.int .i64 0) := HY.out.cellAt (i := 7) rfl
          have y8 : X.cell? ⟨bo, 8, none⟩ = some (.int .i64 0) := HY.out.cellAt (i := 8) rfl
          have y9 : X.cell? ⟨bo, 9, none⟩ = some (.string ⟨#[]⟩) := HY.out.cellAt (i := 9) rfl
          have y10 : X.cell? ⟨bo, 10, none⟩ = some (.string ⟨#[]⟩) := HY.out.cellAt (i := 10) rfl
          unfold set11 at hX
          rw [hX]
          clear hX q0 z0 q1 z1 q2 z2 q3 z3 q4 z4 q5 z5 q6 z6 q7 z7 q8 z8 q9 z9 q10 z10
          refine bodyPost_ret (v := .agg #[.int .u64 0, .int .u64 0, .int .i64 0, .int .u64 0, .int .u64 0, .int .u64 0, .int .u64 0, .int .i64 0, .int .i64 0, .string ⟨#[]⟩, .string ⟨#[]⟩]) (by simp [results, Tryd.results14, go_sem, y0, y1, y2, y3, y4, y5, y6, y7, y8, y9, y10]) rfl ?_
          rw [HGt.out]
          exact ⟨rfl, HRx.out, HFx.out.trans HX.out (fun x hx => by simp at hx; subst hx; right; have h9 := Hw.out; omega)⟩
    · rw [decide_eq_false hle]
      have q0 : v2.cell? ⟨bo, 0, none⟩ = some (.int .u64 0) := HB2.out.cellAt (i := 0) rfl
      have z0 := HB2.out.froz 0
      have q1 : v2.cell? ⟨bo, 1, none⟩ = some (.int .u64 0) := HB2.out.cellAt (i := 1) rfl
      have z1 := HB2.out.froz 1
      have q2 : v2.cell? ⟨bo, 2, none⟩ = some (.int .i64 0) := HB2.out.cellAt (i := 2) rfl
      have z2 := HB2.out.froz 2
      have q3 : v2.cell? ⟨bo, 3, none⟩ = some (.int .u64 0) := HB2.out.cellAt (i := 3) rfl
      have z3 := HB2.out.froz 3
      have q4 : v2.cell? ⟨bo, 4, none⟩ = some (.int .u64 0) := HB2.out.cellAt (i := 4) rfl
      have z4 := HB2.out.froz 4
      have q5 : v2.cell? ⟨bo, 5, none⟩ = some (.int .u64 0) := HB2.out.cellAt (i := 5) rfl
      have z5 := HB2.out.froz 5
      have q6 : v2.cell? ⟨bo, 6, none⟩ = some (.int .u64 0) := HB2.out.cellAt (i := 6) rfl
      have z6 := HB2.out.froz 6
      have q7 : v2.cell? ⟨bo, 7, none⟩ = some (.int .i64 0) := HB2.out.cellAt (i := 7) rfl
      have z7 := HB2.out.froz 7
      have q8 : v2.cell? ⟨bo, 8, none⟩ = some (.int .i64 0) := HB2.out.cellAt (i := 8) rfl
      have z8 := HB2.out.froz 8
      have q9 : v2.cell? ⟨bo, 9, none⟩ = some (.string ⟨#[]⟩) := HB2.out.cellAt (i := 9) rfl
      have z9 := HB2.out.froz 9
      have q10 : v2.cell? ⟨bo, 10, none⟩ = some (.string ⟨#[]⟩) := HB2.out.cellAt (i := 10) rfl
      have z10 := HB2.out.froz 10
      have HX := Lib.hid (set11_fr v2 bo (.int .u64 0) (.int .u64 0) (.int .i64 0) (.int .u64 0) (.int .u64 0) (.int .u64 0) (.int .u64 0) (.int .i64 0) (.int .i64 0) (.string ⟨#[]⟩) (.string ⟨#[]⟩))
      have HY : Hid (Blk (set11 v2 bo (.int .u64 0) (.int .u64 0) (.int .i64 0) (.int .u64 0) (.int .u64 0) (.int .u64 0) (.int .u64 0) (.int .i64 0) (.int .i64 0) (.string ⟨#[]⟩) (.string ⟨#[]⟩)) bo #[.int .u64 0, .int .u64 0, .int .i64 0, .int .u64 0, .int .u64 0, .int .u64 0, .int .u64 0, .int .i64 0, .int .i64 0, .string ⟨#[]⟩, .string ⟨#[]⟩] 24) := HB2.out.put11 _ _ _ _ _ _ _ _ _ _ _
      have hg : get5 L o = (ent0, L.length + 1) := by unfold get5; rw [if_neg (fun hh => hle hh.1)]
      have HGt := Lib.hid hg
      clear hg
      have HRx := Lib.hid ((HR3.out.over (show L.length < o + 44 + 66 by omega)).fr HX.out (by have := Hlt.out; simp; omega))
      go_wp2_with fail
      obtain ⟨X, hX⟩ : ∃ X, set11 v2 bo (.int .u64 0) (.int .u64 0) (.int .i64 0) (.int .u64 0) (.int .u64 0) (.int .u64 0) (.int .u64 0) (.int .i64 0) (.int .i64 0) (.string ⟨#[]⟩) (.string ⟨#[]⟩) = X := ⟨_, rfl⟩
      rw [hX] at HX HY HRx
      have y0 : X.cell? ⟨bo, 0, none⟩ = some (.int .u64 0) := HY.out.cellAt (i := 0) rfl
      have y1 : X.cell? ⟨bo, 1, none⟩ = some (.int .u64 0) := HY.out.cellAt (i := 1) rfl
      have y2 : X.cell? ⟨bo, 2, none⟩ = some (.int .i64 0) := HY.out.cellAt (i := 2) rfl
      have y3 : X.cell? ⟨bo, 3, none⟩ = some (.int .u64 0) := HY.out.cellAt (i := 3) rfl
      have y4 : X.cell? ⟨bo, 4, none⟩ = some (.int .u64 0) := HY.out.cellAt (i := 4) rfl
      have y5 : X.cell? ⟨bo, 5, none⟩ = some (.int .u64 0) := HY.out.cellAt (i := 5) rfl
      have y6 : X.cell? ⟨bo, 6, none⟩ = some (.int .u64 0) := HY.out.cellAt (i := 6) rfl
      have y7 : X.cell? ⟨bo, 7, none⟩ = some (.int .i64 0) := HY.out.cellAt (i := 7) rfl
      have y8 : X.cell? ⟨bo, 8, none⟩ = some (.int .i64 0) := HY.out.cellAt (i := 8) rfl
      have y9 : X.cell? ⟨bo, 9, none⟩ = some (.string ⟨#[]⟩) := HY.out.cellAt (i := 9) rfl
      have y10 : X.cell? ⟨bo, 10, none⟩ = some (.string ⟨#[]⟩) := HY.out.cellAt (i := 10) rfl
      unfold set11 at hX
      rw [hX]
      clear hX q0 z0 q1 z1 q2 z2 q3 z3 q4 z4 q5 z5 q6 z6 q7 z7 q8 z8 q9 z9 q10 z10
      refine bodyPost_ret (v := .agg #[.int .u64 0, .int .u64 0, .int .i64 0, .int .u64 0, .int .u64 0, .int .u64 0, .int .u64 0, .int .i64 0, .int .i64 0, .string ⟨#[]⟩, .string ⟨#[]⟩]) (by simp [results, Tryd.results14, go_sem, y0, y1, y2, y3, y4, y5, y6, y7, y8, y9, y10]) rfl ?_
      rw [HGt.out]
      exact ⟨rfl, HRx.out, HF3.out.trans HX.out (fun x hx => by simp at hx; subst hx; right; have h9 := Hw.out; omega)⟩
end Go.Proofs.YthfaaoeecajkeaaDoor
