/-
  pintleref18's Queue: Add, Double; pintlelaw18's ref: contracts.
-/
import Derived.Test.YtbafgheblindmaaQRf4
import Derived.Test.YtbafgheblindmaaQRf5
namespace Go.Proofs.Ytbafgheblindmaa
open Go.RowKit

set_option maxHeartbeats 1000000 in
theorem rAddFull (q : Nat) (v : Value) (S : List Itm) (last t d : Int) (s : ByteArray) (w : World) (h : RB w q v S last) (hf : S.length = 4096) :
    Calls Try.prog 27 #[.pointer (some ⟨q, 0, none⟩), .int .u64 t, .int .i64 d, .string s] w fun e w' => e = .returned (.tuple #[.int .u64 0, .int .i64 4]) ∧ w = w' := by
  obtain ⟨a, c, rfl⟩ := h.slice
  have hq := h.blk.cellAt (i := 0) rfl
  rw [hf] at hq
  clear h hf
  go_enter Try.func27, Try.ntmps27
  go_wp2
  go_ret2
  exact ⟨rfl, rfl⟩

set_option maxRecDepth 100000 in
set_option maxHeartbeats 2000000 in
theorem rAdd (q : Nat) (v : Value) (S S' : List Itm) (last n t d : Int) (s : ByteArray) (w : World) (h : RB w q v S last) (hf : S.length < 4096) (h0 : 0 ≤ last) (hl : last ≤ 1000000) (hn : last + 1 = n) (hS : ins ⟨t, n, d, s⟩ S = S') :
    Calls Try.prog 27 #[.pointer (some ⟨q, 0, none⟩), .int .u64 t, .int .i64 d, .string s] w fun e w' => e = .returned (.tuple #[.int .u64 n, .int .i64 0]) ∧ ∃ v', Hid (RB w' q v' S' n) ∧ Hid (Kept q v w v' w') := by
  subst hn
  have hc := h.blk.cellAt (i := 1) rfl
  have hz := h.blk.froz 1
  have hB1 : RB (w.setCell ⟨q, 1, none⟩ (.int .u64 (last + 1))) q v S (last + 1) :=
    ⟨by have := h.blk.set 1 (.int .u64 (last + 1)); simpa using this, ownsRow_fr h.its ((Fr.refl [q] w).setCell (p := ⟨q, 1, none⟩) (.inl (by simp)) _) (fun x hx e => by simp at e; subst e; exact h.ne hx), h.ne⟩
  have hK1 : Kept q v w v (w.setCell ⟨q, 1, none⟩ (.int .u64 (last + 1))) := ⟨(Fr.refl _ _).setCell (.inl (by simp)) _, fun _ h => .inl h⟩
  have HI := Lib.hid (rInsert q v S (last + 1) ⟨t, last + 1, d, s⟩ _ hB1 hf)
  dsimp only at HI
  have HS := Lib.hid hS
  have HB1 := Lib.hid hB1
  have HK1 := Lib.hid hK1
  obtain ⟨a, c, rfl⟩ := h.slice
  have hq := h.blk.cellAt (i := 0) rfl
  have hne : ((S.length : Int) == 4096) = false := by simp; omega
  clear h hB1 hK1 hS
  generalize S.length = m at *
  go_enter Try.func27, Try.ntmps27
  go_wp2_with fail
  refine HI.out.mono ?_
  rintro e w2 ⟨rfl, v2, HB2, HK2⟩
  have hc2 := HB2.out.blk.cellAt (i := 1) rfl
  go_wp2_with fail
  go_ret2
  exact ⟨rfl, v2, by rw [← HS.out]; exact HB2, Lib.hid (HK1.out.trans HK2.out)⟩

set_option maxHeartbeats 1000000 in
theorem rDoubleNo (q : Nat) (v : Value) (S : List Itm) (last o t : Int) (w : World) (h : RB w q v S last) (h4 : S.length ≤ 4096) (hno : ∀ j, j < S.length → (at' S j).order ≠ o) :
    Calls Try.prog 25 #[.pointer (some ⟨q, 0, none⟩), .int .u64 o, .int .u64 t] w fun e w' => e = .returned (.tuple #[.int .u64 0, .bool false]) ∧ w = w' := by
  have HF := Lib.hid (rFind q v S last o w h h4)
  have HN := Lib.hid hno
  clear h hno h4
  go_enter Try.func25, Try.ntmps25
  go_wp2_with fail
  refine HF.out.mono ?_
  rintro e w1 ⟨r, rfl, HA, rfl⟩
  rcases HA.out with ⟨rfl, hn⟩ | ⟨i, rfl, hi, ho⟩
  · clear hn HA
    have hd : decide ((-1 : Int) < 0) = true := rfl
    go_wp2_with fail
    go_ret2
    exact ⟨rfl, rfl⟩
  · exact absurd ho (HN.out i hi)

/-- What Double makes where it finds one: added, or there is no room. -/
def Dbl (q : Nat) (v : Value) (S : List Itm) (last t : Int) (x : Itm) (w : World) (e : Ending) (w' : World) : Prop :=
  (S.length = 4096 ∧ e = .returned (.tuple #[.int .u64 0, .bool false]) ∧ Fr [] w w') ∨
  (S.length < 4096 ∧ e = .returned (.tuple #[.int .u64 (last + 1), .bool true]) ∧ ∃ v', RB w' q v' (ins ⟨t, last + 1, x.to, x.data⟩ S) (last + 1) ∧ Kept q v w v' w')

set_option maxRecDepth 100000 in
set_option maxHeartbeats 2000000 in
theorem rDouble (q : Nat) (v : Value) (S : List Itm) (last o t : Int) (x : Itm) (w : World) (h : RB w q v S last) (h4 : S.length < 4096) (hu : S.Pairwise (fun a b => a.order ≠ b.order)) (hx : x ∈ S) (ho : x.order = o) (h0 : 0 ≤ last) (hl : last ≤ 1000000) :
    Calls Try.prog 25 #[.pointer (some ⟨q, 0, none⟩), .int .u64 o, .int .u64 t] w fun e w' => e = .returned (.tuple #[.int .u64 (last + 1), .bool true]) ∧ ∃ v', Hid (RB w' q v' (ins ⟨t, last + 1, x.to, x.data⟩ S) (last + 1)) ∧ Hid (Kept q v w v' w') := by
  have HF := Lib.hid (rFind q v S last o w h (by omega))
  have HR := Lib.hid h
  have HX := Lib.hid hx
  have HXo := Lib.hid ho
  have HU := Lib.hid hu
  have HAd := Lib.hid (fun w2 (f2 : Fr [] w w2) => rAdd q v S _ last (last + 1) t x.to x.data w2 (h.fr0 f2) h4 h0 hl rfl rfl)
  clear h hu hx ho
  go_enter Try.func25, Try.ntmps25
  go_wp2_with fail
  refine HF.out.mono ?_
  rintro e w1 ⟨r, rfl, HA, rfl⟩
  rcases HA.out with ⟨rfl, hn⟩ | ⟨i, rfl, hi, ho⟩
  · obtain ⟨k, hk, e⟩ := List.getElem_of_mem HX.out
    exact absurd (by rw [at_eq hk, e]; exact HXo.out) (hn k hk)
  · have hxe : at' S i = x := uniq_eq HU.out (at_mem hi) HX.out (by rw [ho, HXo.out])
    have hd : decide ((i : Int) < 0) = false := by simp
    obtain ⟨g, c, rfl⟩ := HR.out.row (by omega)
    obtain ⟨a0, a1, a2, a3⟩ := row4 HR.out.its rfl hi
    rw [hxe] at a2 a3
    have hq : w.cell? ⟨q, 0, none⟩ = some (.slice (some ⟨g, 0, none⟩) S.length c) := HR.out.blk.cellAt (i := 0) rfl
    have HF1 : Hid (Fr [] w w) := Fr.refl _ _
    clear HA hxe ho a0 a1
    obtain ⟨n, hn⟩ : ∃ n, S.length = n := ⟨_, rfl⟩
    rw [hn] at hq hi h4
    clear hn
    obtain ⟨u, hu⟩ : ∃ u, Value.slice (some ⟨g, 0, none⟩) S.length c = u := ⟨_, rfl⟩
    rw [hu] at HAd
    have HUv := Lib.hid hu
    clear hu
    have hi3 : (i : Int) < (n : Int) := by omega
    go_wp2_with fail
    go_region_with (go_at_call 27; refine (HAd.out _ (HF1.out.drew)).mono ?_; rintro e w2 ⟨rfl, v2, HQ2, HK2⟩)
    all_goals go_wp2_with fail
    all_goals go_ret2
    all_goals exact ⟨rfl, v2, HQ2, by rw [HUv.out]; exact Lib.hid (((Kept.refl _ _ _).fr0 (HF1.out.drew)).trans HK2.out)⟩

set_option maxHeartbeats 1000000 in
theorem refC (t o d : Int) (s : ByteArray) (w : World) :
    Calls Try.prog 16 #[.agg #[.int .u64 t, .int .u64 o, .int .i64 d, .string s]] w fun e w' => e = .returned (.agg #[.int .u64 t, .int .u64 o, .int .i64 d, .string s]) ∧ Fr [] w w' := by
  go_enter Try.func16, Try.ntmps16
  go_wp2
  refine bodyPost_ret (v := .agg #[.int .u64 t, .int .u64 o, .int .i64 d, .string s]) (by simp [results, Try.results16, go_sem]) rfl ⟨rfl, ?_⟩
  exact ((Fr.refl _ _).alloc _).alloc _
end Go.Proofs.Ytbafgheblindmaa
