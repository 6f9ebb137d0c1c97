/-
  container/heap's up and down over the queue's items: contracts.
-/
import Derived.Test.YtbafgheblindmaaQItems
import Derived.IntWalk
namespace Go.Proofs.Ytbafgheblindmaa
open Go.RowKit

/-- What up and down leave. -/
def Moved (n q : Nat) (v : Value) (L : List Itm) (last : Int) (w : World) (L' : List Itm) (w' : World) : Prop :=
  L'.Perm L ∧ (∀ k, n ≤ k → at' L' k = at' L k) ∧ QB w' q v L' last ∧ Fr v.ownBlock.toList w w'
theorem Moved.refl {n q : Nat} {v : Value} {L : List Itm} {last : Int} {w : World} (h : QB w q v L last) : Moved n q v L last w L w := ⟨.refl _, fun _ _ => rfl, h, Fr.refl _ _⟩
theorem Moved.trans {n q : Nat} {v : Value} {L M N : List Itm} {last : Int} {a b c : World} (h : Moved n q v L last a M b) (k : Moved n q v M last b N c) : Moved n q v L last a N c :=
  ⟨k.1.trans h.1, fun i hi => (k.2.1 i hi).trans (h.2.1 i hi), k.2.2.1, h.2.2.2.trans1 k.2.2.2⟩

theorem wrapNil (p : Addr) (s : String) (w : World) : (Builtin.ssaWrapNilChk_ #[80] 80 #[.pointer (some p), strVal "", strVal s]).run Try.prog w = .ok (.pointer (some p)) w := rfl

theorem mVal {name : String} {F : FuncId} (hfind : (Array.find? (fun x => x.name == name) Try.t80.methods).map (fun m => (m.path, m.func)) = some (#[], some (F, false))) (q : Nat) (a : Option Addr) (n c : Nat) (w : World) (h : w.cell? ⟨q, 0, none⟩ = some (.slice a n c)) (K : Nat) :
    (method (K + 1) 80 (.pointer (some ⟨q, 0, none⟩)) name).run Try.prog w = .ok (F, .slice a n c) w := by
  obtain ⟨m, hm, hpf⟩ := Option.map_eq_some_iff.1 hfind
  obtain ⟨hp, hf⟩ := Prod.mk.inj hpf
  clear hfind hpf
  unfold method
  go_simp
  unfold follow receiverAt
  go_simp
  unfold Place.get
  go_simp
  have hw := wrapNil ⟨q, 0, none⟩ ((name.splitOn ".").getLast?.getD name)
  go_simp

theorem iLess' (M : List Itm) (n g c i k : Nat) (w : World) (hl : M.length = n) (hI : Its w (.slice (some ⟨g, 0, none⟩) n c) M) (hi : i < n) (hk : k < n) (hm : n ≤ 4096) :
    Calls Try.prog 80 #[.slice (some ⟨g, 0, none⟩) n c, .int .i64 i, .int .i64 k] w fun e w' => e = .returned (.bool (decide (Bef (at' M i) (at' M k)))) ∧ Fr [] w w' := by
  subst hl; exact iLess M g c i k w hI hi hk hm
theorem iSwap' (M : List Itm) (n g c i k : Nat) (w : World) (hl : M.length = n) (hI : Its w (.slice (some ⟨g, 0, none⟩) n c) M) (hi : i < n) (hk : k < n) (hm : n ≤ 4096) :
    Calls Try.prog 81 #[.slice (some ⟨g, 0, none⟩) n c, .int .i64 i, .int .i64 k] w fun e w' => e = .returned (.tuple #[]) ∧ Its w' (.slice (some ⟨g, 0, none⟩) n c) (swp M i k) ∧ Fr [g] w w' := by
  subst hl; exact iSwap M g c i k w hI hi hk hm

theorem Moved.swap {n q g c N : Nat} {M : List Itm} {last : Int} {w w' : World} (h : QB w q (.slice (some ⟨g, 0, none⟩) N c) M last) {i k : Nat} (hI : Its w' (.slice (some ⟨g, 0, none⟩) N c) (swp M i k)) (hF : Fr [g] w w')
    (hi : i < n) (hk : k < n) (hn : n ≤ M.length) : Moved n q (.slice (some ⟨g, 0, none⟩) N c) M last w (swp M i k) w' := by
  refine ⟨swp_perm (by omega) (by omega), fun j hj => ?_, ⟨h.blk.fr hF ?_, hI, h.ne⟩, hF⟩
  · rw [at_swp (by omega) (by omega), if_neg (by omega), if_neg (by omega)]
  · exact h.ne
theorem Moved.stay {n q : Nat} {v : Value} {L M : List Itm} {last : Int} {w a b : World} (h : Moved n q v L last w M a) (f : Fr [] a b) : Moved n q v L last w M b :=
  ⟨h.1, h.2.1, h.2.2.1.fr0 f, h.2.2.2.trans0 f⟩

set_option maxRecDepth 100000 in
set_option maxHeartbeats 1000000 in
theorem hUp (L : List Itm) (q n j : Nat) (v : Value) (last : Int) (w : World) (hB : QB w q v L last) (hn : n ≤ L.length) (hj : j < n) (hu : UpOK n L j) (hm : L.length ≤ 4096) :
    Calls Try.prog 32 #[rvQ q, .int .i64 j] w fun e w' => e = .returned (.tuple #[]) ∧ ∃ L', Heap n L' ∧ Moved n q v L last w L' w' := by
  have hs := hB.its.shape
  rcases hs with ⟨rfl, rfl⟩ | ⟨g, c, rfl, hg, hc⟩
  · simp at hn; omega
  generalize hLN : L.length = N at *
  have HLN := Lib.hid hLN
  clear hLN
  go_enter Try.func32, Try.ntmps32
  go_wp2
  go_loopw [1, 4] (fun jv _ wr => ∃ (j : Nat) (M : List Itm), j < n ∧ jv = .int .i64 j ∧ UpOK n M j ∧ Moved n q (.slice (some ⟨g, 0, none⟩) N c) L last w M wr) (fun jv _ _ => (intOf jv).toNat)
  case atStart => exact ⟨j, L, hj, rfl, hu, Moved.refl hB⟩
  case round =>
    obtain ⟨j, M, hj, rfl, hu, hM⟩ := hrel
    have HM := Lib.hid hM
    have HU := Lib.hid hu
    have hlN : M.length = N := by rw [hM.1.length_eq]; exact HLN.out
    have HlN := Lib.hid hlN
    have hq := hM.2.2.1.blk.cellAt (i := 0) rfl
    by_cases h0 : j = 0
    · subst h0
      have hj2 : (((0 : Nat) : Int) - 1).tdiv 2 = 0 := rfl
      clear hM hu hB hlN
      go_wp2_with fail
      go_end0
      exact ⟨rfl, M, up_end HU.out (.inl rfl), HM.out⟩
    · have HI := Lib.hid hM.2.2.1.its
      have he : ((j : Int) - 1) / 2 = (((j - 1) / 2 : Nat) : Int) := by omega
      have hne : ((((j - 1) / 2 : Nat) : Int) == (j : Int)) = false := by simp; omega
      have hLess := mVal (name := "Less") (F := 80) (by kernel_rfl) q _ _ _ wr hq
      have hp : (j - 1) / 2 < j := by omega
      have h0j : 0 < j := by omega
      have HS := Lib.hid (up_step (n := n) (j := j) (L := M) (by omega) hj h0j hu)
      have HE := Lib.hid (up_end (n := n) (j := j) (L := M) hu)
      have HlN2 := Lib.hid hn
      generalize (j - 1) / 2 = p at *
      clear hM hu hB hlN hq h0
      by_cases hb : Bef (at' M j) (at' M p)
      · have hd : decide (Bef (at' M j) (at' M p)) = true := by simpa using hb
        have HB : Hid (Bef (at' M j) (at' M p)) := hb
        clear hb
        go_wp2_with (first
          | (go_at_call 80; refine (iLess' M N g c j p _ HlN.out HI.out (by omega) (by omega) hm).mono ?_; rintro e w1 ⟨rfl, f1⟩; have hSwap := mVal (name := "Swap") (F := 81) (by kernel_rfl) q _ _ _ w1 ((HM.out.stay f1).2.2.1.blk.cellAt (i := 0) rfl))
          | (go_at_call 81; refine (iSwap' M N g c p j _ HlN.out (HI.out.fr0 f1) (by omega) (by omega) hm).mono ?_; rintro e w2 ⟨rfl, I2, f2⟩))
        go_roundw
        case rel => exact ⟨p, swp M p j, by omega, rfl, HS.out HB.out, (HM.out.stay f1).trans (Moved.swap (HM.out.stay f1).2.2.1 I2 f2 (by omega) hj (by have := HlN.out; have := HlN2.out; omega))⟩
        case measure => simp [intOf]; omega
      · have hd : decide (Bef (at' M j) (at' M p)) = false := by simpa using hb
        have HB : Hid (¬ Bef (at' M j) (at' M p)) := hb
        clear hb
        go_wp2_with (first
          | (go_at_call 80; refine (iLess' M N g c j p _ HlN.out HI.out (by omega) (by omega) hm).mono ?_; rintro e w1 ⟨rfl, f1⟩))
        go_end0
        exact ⟨rfl, M, HE.out (.inr HB.out), HM.out.stay f1⟩
end Go.Proofs.Ytbafgheblindmaa
