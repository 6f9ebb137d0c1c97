/-
  Texts of this seat, joined: FNext.
-/
import Derived.Test.YtacdbglocpaeaaaZFFrame
set_option linter.unusedSimpArgs false
set_option linter.unusedVariables false
namespace Go.Proofs.Ytacdbglocpaeaaa
open Go.RowKit

theorem rdBytes_left (s : ByteArray) (b : Bool) (n : Int) : (rdBytes s b n).2.1.size ≤ s.size := by
  unfold rdBytes
  split
  · exact Nat.zero_le _
  · simp only [ByteArray.size_extract]; omega
theorem rdBytes_got (s : ByteArray) (b : Bool) (n : Int) : (rdBytes s b n).1.size ≤ s.size := by
  unfold rdBytes
  split
  · exact Nat.zero_le _
  · simp only [ByteArray.size_extract]; omega
theorem rdVar_left (s : ByteArray) (b : Bool) : (rdVar s b).2.1.size ≤ s.size := by
  unfold rdVar
  split
  · simp only [ByteArray.size_extract]; omega
  · exact Nat.zero_le _

theorem varGo_lt (l : List UInt8) : ∀ i n, n < 18446744073709551616 → ∀ m k, varGo l i n = some (m, k) → m < 18446744073709551616 := by
  induction l with
  | nil => intro i n _ m k h; simp [varGo] at h
  | cons c l ih =>
    intro i n hn m k h
    rw [varGo] at h
    split at h
    · cases h
    · split at h
      · exact ih _ _ (vS_lt hn) _ _ h
      · split at h
        · cases h
        · cases h; exact vS_lt hn

theorem rdVar_lt (s : ByteArray) (b : Bool) : 0 ≤ (rdVar s b).1 ∧ (rdVar s b).1 < 18446744073709551616 := by
  unfold rdVar
  split
  · rename_i n k h
    have := varGo_lt _ _ _ (by decide) _ _ h
    exact ⟨by simp, by simp; omega⟩
  · decide

/-- What stands behind the length. -/
def nextT (s : ByteArray) (v : Int) (k : Int) (s2 : ByteArray) (b2 : Bool) : Int × ByteArray × Int × Bool :=
  if (rdBytes s2 b2 4).2.2 = true ∨ 1048576 < k ∨ ((rdBytes s2 b2 4).2.1.size : Int) < k then (0, bs [], 0, false)
  else if crcMore (crcMore 0 (s.extract 0 (s.size - s2.size)).data.toList) (rdBytes (rdBytes s2 b2 4).2.1 (rdBytes s2 b2 4).2.2 k).1.data.toList = beNum 0 (rdBytes s2 b2 4).1.data.toList then
    (v, (rdBytes (rdBytes s2 b2 4).2.1 (rdBytes s2 b2 4).2.2 k).1, (s.size : Int) - ((rdBytes (rdBytes s2 b2 4).2.1 (rdBytes s2 b2 4).2.2 k).2.1.size : Int), true)
  else (0, bs [], 0, false)

def nextS (s : ByteArray) : Int × ByteArray × Int × Bool :=
  if beNum 0 (rdBytes s false 1).1.data.toList = 161 then
    nextT s 1 (beNum 0 (rdBytes (rdBytes s false 1).2.1 (rdBytes s false 1).2.2 4).1.data.toList : Nat) (rdBytes (rdBytes s false 1).2.1 (rdBytes s false 1).2.2 4).2.1 (rdBytes (rdBytes s false 1).2.1 (rdBytes s false 1).2.2 4).2.2
  else if beNum 0 (rdBytes s false 1).1.data.toList = 162 then
    nextT s 2 (rdVar (rdBytes s false 1).2.1 (rdBytes s false 1).2.2).1 (rdVar (rdBytes s false 1).2.1 (rdBytes s false 1).2.2).2.1 (rdVar (rdBytes s false 1).2.1 (rdBytes s false 1).2.2).2.2
  else (0, bs [], 0, false)

set_option maxHeartbeats 1000000 in
theorem fNext1 (c r : Nat) (s : ByteArray) (b : Bool) (w : World) (hc : Blk w c #[.pointer (some ⟨r, 0, none⟩)] 56) (h : Rd w r s b) :
    Calls Try.prog 29 #[.pointer (some ⟨c, 0, none⟩)] w fun e w' =>
      e = .returned (.int .u64 ((beNum 0 (rdBytes s b 4).1.data.toList : Nat) : Int)) ∧ Rd w' r (rdBytes s b 4).2.1 (rdBytes s b 4).2.2 ∧ Fr [r] w w' := by
  have c0 := hc.cellAt (i := 0) rfl
  go_enter Try.func29, Try.ntmps29
  go_wp2_with (go_at_call 28; refine (vFixedR _ _ _ 4 _ h (by decide)).mono ?_; rintro e w' ⟨rfl, h1, h2⟩)
  go_ret
  exact ⟨rfl, h1, h2⟩

theorem beNum_one (s : ByteArray) (b : Bool) : beNum 0 (rdBytes s b 1).1.data.toList < 256 := by
  have h := rdBytes_size s b 1 1 (by decide)
  have h' : (rdBytes s b 1).1.data.toList.length ≤ 1 := h
  match hl : (rdBytes s b 1).1.data.toList, h' with
  | [], _ => decide
  | [c], _ => simp [beNum, beStep]; have := c.toNat_lt; omega

theorem funcZero : ∀ w, (zeroValue 59).run Try.prog w = .ok .nilFunc w := fun _ => by kernel_rfl

set_option maxRecDepth 100000 in
set_option maxHeartbeats 4000000 in
theorem fNext (s : ByteArray) (w : World) (hs : s.size ≤ maxLen) :
    Calls Try.prog 12 #[.string s] w fun e w' =>
      e = .returned (.tuple #[.int .i64 (nextS s).1, .string (nextS s).2.1, .int .i64 (nextS s).2.2.1, .bool (nextS s).2.2.2]) ∧ Fr [] w w' := by
  unfold maxLen at hs
  have hmf : ∀ (fn : Fn) (first cap : Array Value) (w : World), (Instr.makeFunc fn first cap).run Try.prog w = .ok (.func fn first cap) w := fun _ _ _ _ => rfl
  have hb1 := beNum_one s false
  have hl1 := rdBytes_left s false 1
  generalize hN : nextS s = N
  unfold nextS at hN
  generalize hx1 : rdBytes s false 1 = x1 at *
  have Hx1 := Lib.hid hx1
  clear hx1
  obtain ⟨t1, s1, b1⟩ := x1
  dsimp only at hN hb1 hl1
  generalize hv1 : beNum 0 t1.data.toList = v1 at *
  have Hv1 := Lib.hid hv1
  clear hv1
  have HN := Lib.hid hN
  clear hN
  go_enter Try.func12, Try.ntmps12
  go_wp2_with fail
  refine (vNew s _).mono ?_
  rintro e w1 ⟨rfl, g1, f1⟩
  generalize hr0 : w.heap.size = r0 at *
  have Hr0 := Lib.hid hr0
  clear hr0
  go_wp2_with fail
  have hr1 : r0 < w1.heap.size := g1.lt
  have G1 : Rd (w1.alloc (.cells #[.pointer (some ⟨r0, 0, none⟩)] 56)) r0 s false := Blk.alloc g1 _
  have BC : Blk (w1.alloc (.cells #[.pointer (some ⟨r0, 0, none⟩)] 56)) w1.heap.size #[.pointer (some ⟨r0, 0, none⟩)] 56 := Blk.new _ _ _
  have F1 : Hid (Fr [] w (w1.alloc (.cells #[.pointer (some ⟨r0, 0, none⟩)] 56))) := f1.alloc _
  generalize w1.alloc (.cells #[.pointer (some ⟨r0, 0, none⟩)] 56) = w1' at *
  generalize w1.heap.size = c0 at *
  refine (vFixedR _ _ _ 1 _ G1 (by decide)).mono ?_
  rw [Hx1.out]
  dsimp only
  rw [Hv1.out]
  rintro e w2 ⟨rfl, g2, f2⟩
  have hne : c0 ∉ [r0] := by simp; omega
  have BC2 : Hid (Blk w2 c0 #[.pointer (some ⟨r0, 0, none⟩)] 56) := BC.fr f2 hne
  have hc2 := BC2.out.lt
  have F2 : Hid (Fr [r0] w w2) := (F1.out.wide0).trans1 f2
  have hv0 : (0 : Int) ≤ v1 := by omega
  have hv2 : (v1 : Int) < 256 := by omega
  generalize hv : (v1 : Int) = vi at *
  have Hv := Lib.hid hv
  clear hv BC G1 F1 f2 hb1 f1 g1 hne
  rcases (show vi = 161 ∨ vi = 162 ∨ ¬ (vi = 161 ∨ vi = 162) by omega) with hk | hk | hk
  · have Hres : Hid (imLook [(1, .func (.func 29) #[] #[.pointer (some ⟨c0, 0, none⟩)]), (2, .func (.func 30) #[.pointer (some ⟨r0, 0, none⟩)] #[])] (vi - 160) = some (.func (.func 29) #[] #[.pointer (some ⟨c0, 0, none⟩)])) := by
      show imLook _ _ = _
      rw [hk]
      rfl
    have Hk := Lib.hid hk
    clear hk
    go_wp2_with (first | (refine wpList_makeMap 60 .i64 ?_; intro m w3 HM HO F3; have BC3 : Hid (Blk w3 c0 #[.pointer (some ⟨r0, 0, none⟩)] 56) := BC2.out.fr0 F3.out) | (refine wpList_insert 60 3 59 Try.underlying60 .i64 Try.underlying3 (.tmp 20) (.const (.int .i64 1)) (.tmp 21) _ 1 _ [] rfl rfl rfl HO rfl ?_; intro w4 HO4 F4; have c4 : w4.cell? ⟨c0, 0, none⟩ = some (.pointer (some ⟨r0, 0, none⟩)) := (BC3.out.fr F4.out (by have := HM.out; simp; omega)).cellAt (i := 0) rfl) | (refine wpList_insert 60 3 59 Try.underlying60 .i64 Try.underlying3 (.tmp 20) (.const (.int .i64 2)) (.tmp 23) _ 2 _ _ rfl rfl rfl HO4 rfl ?_; intro w5 HO5 F5) | (refine wpList_look 60 3 59 Try.underlying60 .i64 Try.underlying3 .nilFunc funcZero (.tmp 26) (.tmp 27) _ _ _ rfl rfl HO5 true _ Hres.out ?_))

    have F25 : Hid (Fr [r0] w w5) := ((F2.out.trans0 F3.out).trans F4.out (by have := HM.out; have := F2.out.size; simp; omega)).trans F5.out (by have := HM.out; have := F2.out.size; simp; omega)
    have hm2 : r0 ≠ m := by have := HM.out; omega
    have hm3 : c0 ≠ m := by have := HM.out; omega
    have G5 : Rd w5 r0 s1 b1 := ((g2.fr0 F3.out).fr F4.out (by simpa using hm2)).fr F5.out (by simpa using hm2)
    have BC5 : Blk w5 c0 #[.pointer (some ⟨r0, 0, none⟩)] 56 := (BC3.out.fr F4.out (by simpa using hm3)).fr F5.out (by simpa using hm3)
    refine (fNext1 c0 r0 s1 b1 _ BC5 G5).mono ?_
    have hk1 : (0 : Int) ≤ ((beNum 0 (rdBytes s1 b1 4).1.data.toList : Nat) : Int) := Int.natCast_nonneg _
    have hl2 := rdBytes_left s1 b1 4
    generalize eK : ((beNum 0 (rdBytes s1 b1 4).1.data.toList : Nat) : Int) = kk at *
    generalize eS : (rdBytes s1 b1 4).2.1 = s2 at *
    generalize eB : (rdBytes s1 b1 4).2.2 = b2 at *
    have EK := Lib.hid eK
    have ES := Lib.hid eS
    have EB := Lib.hid eB
    clear eK eS eB
    rintro e w6 ⟨rfl, g6, f6⟩
    have BC6 := BC5.fr f6 (by simp; omega)
    have F6 : Hid (Fr [r0] w w6) := F25.out.trans1 f6
    have hl3 : s2.size ≤ s.size := by omega
    clear HO5 HO4 HO BC3 BC2 F2 F3 F4 F5 F25 HM hm2 hm3 G5 BC5 c4 g2 f6
    have cc := BC6.cellAt (i := 0) rfl
    have HN2 : Hid (nextT s (vi - 160) kk s2 b2 = N) := by
      have hv3 := Hv.out
      have hk3 := Hk.out
      show nextT _ _ _ _ _ = N
      rw [← HN.out, if_pos (by omega), ← EK.out, ← ES.out, ← EB.out, hk3]
      rfl
    clear HN EK ES EB
    go_wp2_with (go_at_call 31; refine (vLeft _ _ _ _ g6).mono ?_; rintro e w' ⟨rfl, rfl⟩)
    have hl4 := rdBytes_left s2 b2 4
    have hq := beNum_lt (rdBytes s2 b2 4).1.data.toList (n := 0) (by decide)
    refine (vFixedR _ _ _ 4 _ g6 (by decide)).mono ?_
    have HN3 := HN2.out
    unfold nextT at HN3
    have HN4 := Lib.hid HN3
    clear HN3 HN2
    generalize rdBytes s2 b2 4 = x3 at *
    obtain ⟨t4, s3, b3⟩ := x3
    dsimp only at hl4 hq HN4 ⊢
    rintro e w7 ⟨rfl, g7, f7⟩
    have BC7 := BC6.fr f7 (by simp; omega)
    have F7 : Hid (Fr [r0] w w7) := F6.out.trans1 f7
    have hs3 : s3.size ≤ s.size := by omega
    clear BC6 f7 cc g6 F6
    have cc := BC7.cellAt (i := 0) rfl
    generalize hsm : beNum 0 t4.data.toList = sm at *
    have Hsm := Lib.hid hsm
    clear hsm
    have hsi0 : (0 : Int) ≤ sm := by omega
    have hsi1 : (sm : Int) < 18446744073709551616 := by omega
    generalize hsi : (sm : Int) = si at *
    have Hsi := Lib.hid hsi
    clear hsi hq
    by_cases hbad : b3 = true ∨ 1048576 < kk ∨ (s3.size : Int) < kk
    · have HN5 : Hid ((0, bs [], 0, false) = N) := by have h := HN4.out; rw [if_pos hbad] at h; exact h
      clear HN4
      have hfin : Hid (Fr [] w w7) := F7.out.shed (by have := Hr0.out; simp; omega)
      rcases (show b3 = true ∨ (b3 = false ∧ 1048576 < kk) ∨ (b3 = false ∧ ¬ 1048576 < kk ∧ (s3.size : Int) < kk) by cases b3 <;> simp_all <;> omega) with h | ⟨h, h2⟩ | ⟨h, h2, h3⟩
      all_goals
        subst h
        clear hbad
        go_wp2_with (first | (go_at_call 32; refine (vOK _ _ _ _ g7).mono ?_; rintro e w' ⟨rfl, rfl⟩) | (go_at_call 31; refine (vLeft _ _ _ _ g7).mono ?_; rintro e w' ⟨rfl, rfl⟩))
        refine bodyPost_ret (v := .tuple #[.int .i64 0, .string ⟨#[]⟩, .int .i64 0, .bool false]) (by simp [results, Try.results12, go_sem]) rfl ?_
        rw [← HN5.out]
        exact ⟨rfl, hfin.out⟩
    · obtain rfl : b3 = false := by cases b3 <;> simp_all
      have hk2 : kk ≤ 1048576 := by omega
      have hk3 : kk ≤ s3.size := by omega
      have HN5 := HN4.out
      rw [if_neg hbad] at HN5
      have HN6 := Lib.hid HN5
      clear hbad HN4 HN5
      go_wp2_with (first | (go_at_call 32; refine (vOK _ _ _ _ g7).mono ?_; rintro e w' ⟨rfl, rfl⟩) | (go_at_call 31; refine (vLeft _ _ _ _ g7).mono ?_; rintro e w' ⟨rfl, rfl⟩))
      have hl5 := rdBytes_left s3 false kk
      have hg5 := rdBytes_got s3 false kk
      have BC7' := Lib.hid BC7
      clear cc BC7
      refine (vBytes _ _ _ kk _ g7).mono ?_
      generalize rdBytes s3 false kk = x4 at *
      obtain ⟨bd, s4, b4⟩ := x4
      dsimp only at hl5 hg5 HN6 ⊢
      rintro e w8 ⟨rfl, g8, f8⟩
      have BC8 := BC7'.out.fr f8 (by simp; omega)
      have F8 : Hid (Fr [r0] w w8) := F7.out.trans1 f8
      clear BC7' f8 g7 F7
      go_wp2_with fail
      have hhd : (s.extract 0 (s.size - s2.size)).size ≤ maxLen := by rw [ByteArray.size_extract]; unfold maxLen; omega
      generalize s.extract 0 (s.size - s2.size) = hd at *
      (with_reducible refine (cSum hd _ hhd).mono ?_)
      rintro e w9 ⟨rfl, f9⟩
      have hc1 := crcMore_lt 0 hd.data.toList
      generalize crcMore 0 hd.data.toList = c1 at *
      have hbd : bd.size ≤ maxLen := by unfold maxLen; omega
      go_wp2_with fail
      (with_reducible refine (cMore c1 bd _ hc1 hbd).mono ?_)
      rintro e w10 ⟨rfl, f10⟩
      have hc2' := crcMore_lt c1 bd.data.toList
      generalize crcMore c1 bd.data.toList = c2 at *
      have HN7 : Hid ((if (c2 : Int) = si then (vi - 160, bd, (s.size : Int) - s4.size, true) else (0, bs [], 0, false)) = N) := by
        have h := HN6.out
        have hsi := Hsi.out
        show _ = N
        rw [← h]
        by_cases e : c2 = sm
        · rw [if_pos (by omega), if_pos e]
        · rw [if_neg (by omega), if_neg e]
      clear HN6 Hsi Hsm
      have hci0 : (0 : Int) ≤ c2 := by omega
      have hci1 : (c2 : Int) < 4294967296 := by omega
      generalize (c2 : Int) = ci at *
      have G10 : Rd w10 r0 s4 b4 := (g8.fr0 f9).fr0 f10
      have BC10 := (BC8.fr0 f9).fr0 f10
      have F10 : Hid (Fr [] w w10) := ((F8.out.trans0 f9).trans0 f10).shed (by have := Hr0.out; simp; omega)
      clear BC8 F8 f9 f10 g8
      have cc := BC10.cellAt (i := 0) rfl
      have hs4 : s4.size ≤ s.size := by omega
      by_cases he : ci = si
      · have HN8 : Hid ((vi - 160, bd, (s.size : Int) - s4.size, true) = N) := by have h := HN7.out; rw [if_pos he] at h; exact h
        clear HN7
        have he2 : (ci != si) = false := by simpa using he
        clear he
        go_wp2_with (go_at_call 31; refine (vLeft _ _ _ _ G10).mono ?_; rintro e w' ⟨rfl, rfl⟩)
        refine bodyPost_ret (v := .tuple #[.int .i64 (vi - 160), .string bd, .int .i64 ((s.size : Int) - s4.size), .bool true]) (by simp [results, Try.results12, go_sem]) rfl ?_
        rw [← HN8.out]
        exact ⟨rfl, F10.out⟩
      · have HN8 : Hid ((0, bs [], 0, false) = N) := by have h := HN7.out; rw [if_neg he] at h; exact h
        clear HN7
        have he2 : (ci != si) = true := by simpa using he
        clear he
        go_wp2_with fail
        refine bodyPost_ret (v := .tuple #[.int .i64 0, .string ⟨#[]⟩, .int .i64 0, .bool false]) (by simp [results, Try.results12, go_sem]) rfl ?_
        rw [← HN8.out]
        exact ⟨rfl, F10.out⟩
  · have Hres : Hid (imLook [(1, .func (.func 29) #[] #[.pointer (some ⟨c0, 0, none⟩)]), (2, .func (.func 30) #[.pointer (some ⟨r0, 0, none⟩)] #[])] (vi - 160) = some (.func (.func 30) #[.pointer (some ⟨r0, 0, none⟩)] #[])) := by
      show imLook _ _ = _
      rw [hk]
      rfl
    have Hk := Lib.hid hk
    clear hk
    go_wp2_with (first | (refine wpList_makeMap 60 .i64 ?_; intro m w3 HM HO F3; have BC3 : Hid (Blk w3 c0 #[.pointer (some ⟨r0, 0, none⟩)] 56) := BC2.out.fr0 F3.out) | (refine wpList_insert 60 3 59 Try.underlying60 .i64 Try.underlying3 (.tmp 20) (.const (.int .i64 1)) (.tmp 21) _ 1 _ [] rfl rfl rfl HO rfl ?_; intro w4 HO4 F4; have c4 : w4.cell? ⟨c0, 0, none⟩ = some (.pointer (some ⟨r0, 0, none⟩)) := (BC3.out.fr F4.out (by have := HM.out; simp; omega)).cellAt (i := 0) rfl) | (refine wpList_insert 60 3 59 Try.underlying60 .i64 Try.underlying3 (.tmp 20) (.const (.int .i64 2)) (.tmp 23) _ 2 _ _ rfl rfl rfl HO4 rfl ?_; intro w5 HO5 F5) | (refine wpList_look 60 3 59 Try.underlying60 .i64 Try.underlying3 .nilFunc funcZero (.tmp 26) (.tmp 27) _ _ _ rfl rfl HO5 true _ Hres.out ?_))

    have F25 : Hid (Fr [r0] w w5) := ((F2.out.trans0 F3.out).trans F4.out (by have := HM.out; have := F2.out.size; simp; omega)).trans F5.out (by have := HM.out; have := F2.out.size; simp; omega)
    have hm2 : r0 ≠ m := by have := HM.out; omega
    have hm3 : c0 ≠ m := by have := HM.out; omega
    have G5 : Rd w5 r0 s1 b1 := ((g2.fr0 F3.out).fr F4.out (by simpa using hm2)).fr F5.out (by simpa using hm2)
    have BC5 : Blk w5 c0 #[.pointer (some ⟨r0, 0, none⟩)] 56 := (BC3.out.fr F4.out (by simpa using hm3)).fr F5.out (by simpa using hm3)
    refine (vVar r0 s1 b1 _ G5 (by unfold maxLen; omega)).mono ?_
    have hk1 := (rdVar_lt s1 b1).1
    have hl2 := rdVar_left s1 b1
    generalize eK : (rdVar s1 b1).1 = kk at *
    generalize eS : (rdVar s1 b1).2.1 = s2 at *
    generalize eB : (rdVar s1 b1).2.2 = b2 at *
    have EK := Lib.hid eK
    have ES := Lib.hid eS
    have EB := Lib.hid eB
    clear eK eS eB
    rintro e w6 ⟨rfl, g6, f6⟩
    have BC6 := BC5.fr f6 (by simp; omega)
    have F6 : Hid (Fr [r0] w w6) := F25.out.trans1 f6
    have hl3 : s2.size ≤ s.size := by omega
    clear HO5 HO4 HO BC3 BC2 F2 F3 F4 F5 F25 HM hm2 hm3 G5 BC5 c4 g2 f6
    have cc := BC6.cellAt (i := 0) rfl
    have HN2 : Hid (nextT s (vi - 160) kk s2 b2 = N) := by
      have hv3 := Hv.out
      have hk3 := Hk.out
      show nextT _ _ _ _ _ = N
      rw [← HN.out, if_neg (by omega), if_pos (by omega), ← EK.out, ← ES.out, ← EB.out, hk3]
      rfl
    clear HN EK ES EB
    go_wp2_with (go_at_call 31; refine (vLeft _ _ _ _ g6).mono ?_; rintro e w' ⟨rfl, rfl⟩)
    have hl4 := rdBytes_left s2 b2 4
    have hq := beNum_lt (rdBytes s2 b2 4).1.data.toList (n := 0) (by decide)
    refine (vFixedR _ _ _ 4 _ g6 (by decide)).mono ?_
    have HN3 := HN2.out
    unfold nextT at HN3
    have HN4 := Lib.hid HN3
    clear HN3 HN2
    generalize rdBytes s2 b2 4 = x3 at *
    obtain ⟨t4, s3, b3⟩ := x3
    dsimp only at hl4 hq HN4 ⊢
    rintro e w7 ⟨rfl, g7, f7⟩
    have BC7 := BC6.fr f7 (by simp; omega)
    have F7 : Hid (Fr [r0] w w7) := F6.out.trans1 f7
    have hs3 : s3.size ≤ s.size := by omega
    clear BC6 f7 cc g6 F6
    have cc := BC7.cellAt (i := 0) rfl
    generalize hsm : beNum 0 t4.data.toList = sm at *
    have Hsm := Lib.hid hsm
    clear hsm
    have hsi0 : (0 : Int) ≤ sm := by omega
    have hsi1 : (sm : Int) < 18446744073709551616 := by omega
    generalize hsi : (sm : Int) = si at *
    have Hsi := Lib.hid hsi
    clear hsi hq
    by_cases hbad : b3 = true ∨ 1048576 < kk ∨ (s3.size : Int) < kk
    · have HN5 : Hid ((0, bs [], 0, false) = N) := by have h := HN4.out; rw [if_pos hbad] at h; exact h
      clear HN4
      have hfin : Hid (Fr [] w w7) := F7.out.shed (by have := Hr0.out; simp; omega)
      rcases (show b3 = true ∨ (b3 = false ∧ 1048576 < kk) ∨ (b3 = false ∧ ¬ 1048576 < kk ∧ (s3.size : Int) < kk) by cases b3 <;> simp_all <;> omega) with h | ⟨h, h2⟩ | ⟨h, h2, h3⟩
      all_goals
        subst h
        clear hbad
        go_wp2_with (first | (go_at_call 32; refine (vOK _ _ _ _ g7).mono ?_; rintro e w' ⟨rfl, rfl⟩) | (go_at_call 31; refine (vLeft _ _ _ _ g7).mono ?_; rintro e w' ⟨rfl, rfl⟩))
        refine bodyPost_ret (v := .tuple #[.int .i64 0, .string ⟨#[]⟩, .int .i64 0, .bool false]) (by simp [results, Try.results12, go_sem]) rfl ?_
        rw [← HN5.out]
        exact ⟨rfl, hfin.out⟩
    · obtain rfl : b3 = false := by cases b3 <;> simp_all
      have hk2 : kk ≤ 1048576 := by omega
      have hk3 : kk ≤ s3.size := by omega
      have HN5 := HN4.out
      rw [if_neg hbad] at HN5
      have HN6 := Lib.hid HN5
      clear hbad HN4 HN5
      go_wp2_with (first | (go_at_call 32; refine (vOK _ _ _ _ g7).mono ?_; rintro e w' ⟨rfl, rfl⟩) | (go_at_call 31; refine (vLeft _ _ _ _ g7).mono ?_; rintro e w' ⟨rfl, rfl⟩))
      have hl5 := rdBytes_left s3 false kk
      have hg5 := rdBytes_got s3 false kk
      have BC7' := Lib.hid BC7
      clear cc BC7
      refine (vBytes _ _ _ kk _ g7).mono ?_
      generalize rdBytes s3 false kk = x4 at *
      obtain ⟨bd, s4, b4⟩ := x4
      dsimp only at hl5 hg5 HN6 ⊢
      rintro e w8 ⟨rfl, g8, f8⟩
      have BC8 := BC7'.out.fr f8 (by simp; omega)
      have F8 : Hid (Fr [r0] w w8) := F7.out.trans1 f8
      clear BC7' f8 g7 F7
      go_wp2_with fail
      have hhd : (s.extract 0 (s.size - s2.size)).size ≤ maxLen := by rw [ByteArray.size_extract]; unfold maxLen; omega
      generalize s.extract 0 (s.size - s2.size) = hd at *
      (with_reducible refine (cSum hd _ hhd).mono ?_)
      rintro e w9 ⟨rfl, f9⟩
      have hc1 := crcMore_lt 0 hd.data.toList
      generalize crcMore 0 hd.data.toList = c1 at *
      have hbd : bd.size ≤ maxLen := by unfold maxLen; omega
      go_wp2_with fail
      (with_reducible refine (cMore c1 bd _ hc1 hbd).mono ?_)
      rintro e w10 ⟨rfl, f10⟩
      have hc2' := crcMore_lt c1 bd.data.toList
      generalize crcMore c1 bd.data.toList = c2 at *
      have HN7 : Hid ((if (c2 : Int) = si then (vi - 160, bd, (s.size : Int) - s4.size, true) else (0, bs [], 0, false)) = N) := by
        have h := HN6.out
        have hsi := Hsi.out
        show _ = N
        rw [← h]
        by_cases e : c2 = sm
        · rw [if_pos (by omega), if_pos e]
        · rw [if_neg (by omega), if_neg e]
      clear HN6 Hsi Hsm
      have hci0 : (0 : Int) ≤ c2 := by omega
      have hci1 : (c2 : Int) < 4294967296 := by omega
      generalize (c2 : Int) = ci at *
      have G10 : Rd w10 r0 s4 b4 := (g8.fr0 f9).fr0 f10
      have BC10 := (BC8.fr0 f9).fr0 f10
      have F10 : Hid (Fr [] w w10) := ((F8.out.trans0 f9).trans0 f10).shed (by have := Hr0.out; simp; omega)
      clear BC8 F8 f9 f10 g8
      have cc := BC10.cellAt (i := 0) rfl
      have hs4 : s4.size ≤ s.size := by omega
      by_cases he : ci = si
      · have HN8 : Hid ((vi - 160, bd, (s.size : Int) - s4.size, true) = N) := by have h := HN7.out; rw [if_pos he] at h; exact h
        clear HN7
        have he2 : (ci != si) = false := by simpa using he
        clear he
        go_wp2_with (go_at_call 31; refine (vLeft _ _ _ _ G10).mono ?_; rintro e w' ⟨rfl, rfl⟩)
        refine bodyPost_ret (v := .tuple #[.int .i64 (vi - 160), .string bd, .int .i64 ((s.size : Int) - s4.size), .bool true]) (by simp [results, Try.results12, go_sem]) rfl ?_
        rw [← HN8.out]
        exact ⟨rfl, F10.out⟩
      · have HN8 : Hid ((0, bs [], 0, false) = N) := by have h := HN7.out; rw [if_neg he] at h; exact h
        clear HN7
        have he2 : (ci != si) = true := by simpa using he
        clear he
        go_wp2_with fail
        refine bodyPost_ret (v := .tuple #[.int .i64 0, .string ⟨#[]⟩, .int .i64 0, .bool false]) (by simp [results, Try.results12, go_sem]) rfl ?_
        rw [← HN8.out]
        exact ⟨rfl, F10.out⟩
  · have Hres : Hid (imLook [(1, .func (.func 29) #[] #[.pointer (some ⟨c0, 0, none⟩)]), (2, .func (.func 30) #[.pointer (some ⟨r0, 0, none⟩)] #[])] (vi - 160) = none) := by
      have h1 : ¬ vi - 160 = 1 := by omega
      have h2 : ¬ vi - 160 = 2 := by omega
      show imLook _ _ = _
      simp [imLook, h1, h2]
    go_wp2_with (first | (refine wpList_makeMap 60 .i64 ?_; intro m w3 HM HO F3; have BC3 : Hid (Blk w3 c0 #[.pointer (some ⟨r0, 0, none⟩)] 56) := BC2.out.fr0 F3.out) | (refine wpList_insert 60 3 59 Try.underlying60 .i64 Try.underlying3 (.tmp 20) (.const (.int .i64 1)) (.tmp 21) _ 1 _ [] rfl rfl rfl HO rfl ?_; intro w4 HO4 F4; have c4 : w4.cell? ⟨c0, 0, none⟩ = some (.pointer (some ⟨r0, 0, none⟩)) := (BC3.out.fr F4.out (by have := HM.out; simp; omega)).cellAt (i := 0) rfl) | (refine wpList_insert 60 3 59 Try.underlying60 .i64 Try.underlying3 (.tmp 20) (.const (.int .i64 2)) (.tmp 23) _ 2 _ _ rfl rfl rfl HO4 rfl ?_; intro w5 HO5 F5) | (refine wpList_look 60 3 59 Try.underlying60 .i64 Try.underlying3 .nilFunc funcZero (.tmp 26) (.tmp 27) _ _ _ rfl rfl HO5 true _ Hres.out ?_))
    refine bodyPost_ret (v := .tuple #[.int .i64 0, .string ⟨#[]⟩, .int .i64 0, .bool false]) (by simp [results, Try.results12, go_sem]) rfl ?_
    have hv3 := Hv.out
    rw [← HN.out, if_neg (by omega), if_neg (by omega)]
    exact ⟨rfl, (((F2.out.trans0 F3.out).trans F4.out (by have := HM.out; have := F2.out.size; simp; omega)).trans F5.out (by have := HM.out; have := F2.out.size; simp; omega)).shed (by have := Hr0.out; simp; omega)⟩
end Go.Proofs.Ytacdbglocpaeaaa
