/-
  queue.items: Len, Less, Swap: contracts.
-/
import Derived.Test.YtbafgheblindmaaQCmp
namespace Go.Proofs.Ytbafgheblindmaa
open Go.RowKit

set_option maxHeartbeats 400000 in
theorem iLen (n c : Nat) (a : Option Addr) (w : World) : Calls Try.prog 79 #[.slice a n c] w fun e w' => e = .returned (.int .i64 n) ∧ w = w' := by
  go_enter Try.func79, Try.ntmps79
  go_wp2
  go_ret
  exact ⟨rfl, rfl⟩

theorem lessS {w : World} {L : List Itm} {g c i k : Nat} (h : Its w (.slice (some ⟨g, 0, none⟩) L.length c) L) (hi : i < L.length) (hk : k < L.length) :
    w.cell? ⟨g, i * 4, none⟩ = some (.int .u64 (at' L i).time) ∧ w.cell? ⟨g, i * 4 + 1, none⟩ = some (.int .u64 (at' L i).order) ∧ w.cell? ⟨g, i * 4 + 2, none⟩ = some (.int .i64 (at' L i).to) ∧ w.cell? ⟨g, i * 4 + 3, none⟩ = some (.string (at' L i).data) ∧ w.cell? ⟨g, k * 4, none⟩ = some (.int .u64 (at' L k).time) ∧ w.cell? ⟨g, k * 4 + 1, none⟩ = some (.int .u64 (at' L k).order) ∧ w.cell? ⟨g, k * 4 + 2, none⟩ = some (.int .i64 (at' L k).to) ∧ w.cell? ⟨g, k * 4 + 3, none⟩ = some (.string (at' L k).data) := by
  obtain ⟨a0, a1, a2, a3⟩ := h.cells4 rfl hi
  obtain ⟨b0, b1, b2, b3⟩ := h.cells4 rfl hk
  exact ⟨a0, a1, a2, a3, b0, b1, b2, b3⟩

theorem Its.drew {w : World} {v : Value} {L : List Itm} (h : Its w v L) : Its w.drew v L := h.fr0 (Fr.refl _ _).drew

set_option maxHeartbeats 1000000 in
theorem iLess (L : List Itm) (g c i k : Nat) (w : World) (hI : Its w (.slice (some ⟨g, 0, none⟩) L.length c) L) (hi : i < L.length) (hk : k < L.length) (_ : L.length ≤ 4096) :
    Calls Try.prog 80 #[.slice (some ⟨g, 0, none⟩) L.length c, .int .i64 i, .int .i64 k] w fun e w' => e = .returned (.bool (decide (Bef (at' L i) (at' L k)))) ∧ Fr [] w w' := by
  obtain ⟨a0, a1, a2, a3⟩ := hI.cells4 rfl hi
  obtain ⟨b0, b1, b2, b3⟩ := hI.cells4 rfl hk
  rw [← ordI_lt]
  have HO := Lib.hid (qOrder (at' L i) (at' L k))
  unfold Itm.cells at HO
  have HI : Hid (∀ w', Fr [] w.drew w' → _) := Lib.hid (fun w' f => lessS (w := w') (hI.drew.fr0 f) hi hk)
  clear hI
  generalize at' L i = x at *
  generalize at' L k = y at *
  generalize L.length = n at *
  go_enter Try.func80, Try.ntmps80
  go_wp2
  go_region_held3 (fun w' => w'.cell? ⟨g, i * 4, none⟩ = some (.int .u64 x.time) ∧ w'.cell? ⟨g, i * 4 + 1, none⟩ = some (.int .u64 x.order) ∧ w'.cell? ⟨g, i * 4 + 2, none⟩ = some (.int .i64 x.to) ∧ w'.cell? ⟨g, i * 4 + 3, none⟩ = some (.string x.data) ∧ w'.cell? ⟨g, k * 4, none⟩ = some (.int .u64 y.time) ∧ w'.cell? ⟨g, k * 4 + 1, none⟩ = some (.int .u64 y.order) ∧ w'.cell? ⟨g, k * 4 + 2, none⟩ = some (.int .i64 y.to) ∧ w'.cell? ⟨g, k * 4 + 3, none⟩ = some (.string y.data))
    (first | go_keep | exact HI.out _ g1)
    ((go_at_call 30; refine (HO.out _).mono ?_; rintro r w' ⟨rfl, g1⟩))
  go_wp2_with fail
  go_ret
  exact ⟨rfl, (Fr.refl _ _).drew.trans0 g1⟩

set_option maxHeartbeats 1000000 in
theorem iSwap (L : List Itm) (g c i k : Nat) (w : World) (hI : Its w (.slice (some ⟨g, 0, none⟩) L.length c) L) (hi : i < L.length) (hk : k < L.length) (hm : L.length ≤ 4096) :
    Calls Try.prog 81 #[.slice (some ⟨g, 0, none⟩) L.length c, .int .i64 i, .int .i64 k] w fun e w' => e = .returned (.tuple #[]) ∧ Its w' (.slice (some ⟨g, 0, none⟩) L.length c) (swp L i k) ∧ Fr [g] w w' := by
  obtain ⟨a0, a1, a2, a3⟩ := hI.cells4 rfl hi
  have hz := hI.froz rfl
  have HP := Lib.hid ((hI.put rfl hi (at' L k)).put rfl (j := k) (by simpa using hk) (at' L i))
  have F := Lib.hid (put4_fr (put4_fr (Fr.refl [g] w) (g := g) (by simp) (i * 4) (at' L k)) (g := g) (by simp) (k * 4) (at' L i))
  have hsw : (L.set i (at' L k)).set k (at' L i) = swp L i k := rfl
  rw [hsw] at HP
  clear hsw
  by_cases e : i = k
  · subst e
    clear hI
    generalize swp L i i = M at *
    generalize at' L i = x at *
    generalize L.length = n at *
    go_enter Try.func81, Try.ntmps81
    go_wp2
    go_region
    go_end0
    exact ⟨rfl, HP.out.drew, F.out.drew⟩
  · have e1 : ¬ k = i := fun h => e h.symm
    have e2 : ¬ i * 4 = k * 4 := by omega
    have e3 : ¬ k * 4 = i * 4 := by omega
    obtain ⟨b0, b1, b2, b3⟩ := hI.cells4 rfl hk
    clear hI
    generalize swp L i k = M at *
    generalize at' L i = x at *
    generalize at' L k = y at *
    generalize L.length = n at *
    go_enter Try.func81, Try.ntmps81
    go_wp2
    go_region
    go_end0
    exact ⟨rfl, HP.out.drew, F.out.drew⟩
end Go.Proofs.Ytbafgheblindmaa
