/-
  Texts of this seat, joined: GGetM.
-/
import Derived.Test.YthfaaoeecajkeaaDoorW27
import Derived.Test.YthfaaoeecajkeaaDoorWtk
set_option linter.unusedSimpArgs false
set_option linter.unusedVariables false
namespace Go.Proofs.YthfaaoeecajkeaaDoor
open List renaming getElem?_toArray → lg0, getElem?_cons_succ → lg1, getElem?_cons_zero → lg2, setIfInBounds_toArray → lt0', set_cons_zero → lt1', set_cons_succ → lt2'
open Go.RowKit

set_option maxRecDepth 100000 in
set_option maxHeartbeats 16000000 in
theorem pGetM (L : List UInt8) (w : World) (hL : L.length ≤ maxLen) :
    Calls Tryd.prog 22 #[.string (bs L)] w fun e w' => ∃ v, e = .returned (.tuple #[.agg ((gotM L).1.cells v), .bool (gotM L).2]) ∧ Hid (Ents w' v (gotM L).1.ents) ∧ Hid (Fr [] w w') := by
  have hmf : ∀ (fn : Fn) (first cap : Array Value) (w : World), (Instr.makeFunc fn first cap).run Tryd.prog w = .ok (.func fn first cap) w := fun _ _ _ _ => rfl
  have HLen := Lib.hid hL
  clear hL
  have HB0 := Lib.hid (Blk.new w #[.int .i64 0, .int .i64 0, .int .i64 0, .int .u64 0, .int .u64 0, .int .u64 0, .int .u64 0, .int .u64 0, .bool false, .slice none 0 0, .string ⟨#[]⟩] 47)
  have HF0 : Hid (Fr [] w (w.alloc (.cells #[.int .i64 0, .int .i64 0, .int .i64 0, .int .u64 0, .int .u64 0, .int .u64 0, .int .u64 0, .int .u64 0, .bool false, .slice none 0 0, .string ⟨#[]⟩] 47))) := (Fr.refl [] w).alloc _
  go_enter Tryd.func22, Tryd.ntmps22
  go_wp2_with fail
  generalize hbo : w.heap.size = bo at *
  have Hw := Lib.hid hbo
  clear hbo
  refine (vNew (bs L) _).mono ?_
  rintro q w1 ⟨rfl, h1, f1⟩
  have HR1 : Hid (RdAt w1 (w.alloc (.cells #[.int .i64 0, .int .i64 0, .int .i64 0, .int .u64 0, .int .u64 0, .int .u64 0, .int .u64 0, .int .u64 0, .bool false, .slice none 0 0, .string ⟨#[]⟩] 47)).heap.size L 0) := RdAt.start h1
  have HB1 := Lib.hid (HB0.out.fr0 f1)
  have HF1 := Lib.hid (HF0.out.trans0 f1)
  have Hbr : Hid (bo < (w.alloc (.cells #[.int .i64 0, .int .i64 0, .int .i64 0, .int .u64 0, .int .u64 0, .int .u64 0, .int .u64 0, .int .u64 0, .bool false, .slice none 0 0, .string ⟨#[]⟩] 47)).heap.size) := HB0.out.lt
  clear h1 f1 HB0 HF0
  generalize (w.alloc (.cells #[.int .i64 0, .int .i64 0, .int .i64 0, .int .u64 0, .int .u64 0, .int .u64 0, .int .u64 0, .int .u64 0, .bool false, .slice none 0 0, .string ⟨#[]⟩] 47)).heap.size = r at *
  have HR0 := Lib.hid (HR1.out.alloc (.cells #[.func (.func 35) #[.pointer (some ⟨r, 0, none⟩)] #[]] 79))
  have HB0 := Lib.hid (HB1.out.alloc (.cells #[.func (.func 35) #[.pointer (some ⟨r, 0, none⟩)] #[]] 79))
  have HN0 : Hid (NumV (w1.alloc (.cells #[.func (.func 35) #[.pointer (some ⟨r, 0, none⟩)] #[]] 79)) w1.heap.size r) := (Blk.new w1 #[.func (.func 35) #[.pointer (some ⟨r, 0, none⟩)] #[]] 79).cellAt (i := 0) rfl
  have HF0 := Lib.hid ((HF1.out.wide0 (S := [r])).alloc (.cells #[.func (.func 35) #[.pointer (some ⟨r, 0, none⟩)] #[]] 79))
  have Hlt : Hid (bo < r ∧ r < w1.heap.size) := ⟨Hbr.out, HR1.out.lt⟩
  have Hsz : Hid (w1.heap.size + 1 ≤ (w1.alloc (.cells #[.func (.func 35) #[.pointer (some ⟨r, 0, none⟩)] #[]] 79)).heap.size) := by show _ ≤ _; simp
  clear HR1 HB1 HF1
  go_wp2_with fail
  generalize w1.alloc (.cells #[.func (.func 35) #[.pointer (some ⟨r, 0, none⟩)] #[]] 79) = V at *
  generalize w1.heap.size = c at *
  have n0 : V.cell? ⟨c, 0, none⟩ = some (.func (.func 35) #[.pointer (some ⟨r, 0, none⟩)] #[]) := HN0.out
  go_cut [7] from 7 to 30 (fun p wx => ∃ b5 : Nat, p = .pointer (some ⟨b5, 0, none⟩) ∧ Hid (Blk wx b5 #[.int .i64 (numF L 0 1), .int .i64 (numF L 1 1), .int .i64 (numF L 2 1), .int .u64 (numF L 3 8), .int .u64 (numF L 11 8), .int .u64 (numF L 19 8), .int .u64 (numF L 27 8), .int .u64 (numF L 35 8), .bool false, .slice none 0 0, .string ⟨#[]⟩] 47) ∧ Hid (c < b5) ∧ Hid (Blk wx bo #[.int .i64 0, .int .i64 0, .int .i64 0, .int .u64 0, .int .u64 0, .int .u64 0, .int .u64 0, .int .u64 0, .bool false, .slice none 0 0, .string ⟨#[]⟩] 47) ∧ Hid (RdAt wx r L 43) ∧ Hid (NumV wx c r) ∧ Hid (Fr [r] w wx))
  case first =>
    have H0 : Hid (GSt c r bo L #[.int .i64 0, .int .i64 0, .int .i64 0, .int .u64 0, .int .u64 0, .int .u64 0, .int .u64 0, .int .u64 0, .bool false, .slice none 0 0, .string ⟨#[]⟩] 47 w V.drew 0) := ⟨HR0.out, HB0.out, HN0.out, HF0.out.drew, Hsz.out⟩
    have Hd : Hid (Lies c r bo w) := by have := Hlt.out; have := Hw.out; exact ⟨by omega, by omega, by omega, by omega, by omega⟩
    replace n0 := H0.out.num
    clear Hsz HR0 HB0 HN0 HF0
    refine wp_region_held_drew (S := fun w' => w'.cell? ⟨c, 0, none⟩ = some (.func (.func 35) #[.pointer (some ⟨r, 0, none⟩)] #[])) (by kernel_rfl) ?_ (fun hHeld => ?_)
    · exact n0
    generalize V.drew = U0 at *
    refine tk 0 ?_
    simp only [Act.put, lt0', lt1', lt2']
    refine tk 2 ?_
    simp only [Act.put, lt0', lt1', lt2']
    refine tk 4 ?_
    simp only [Act.put, lt0', lt1', lt2']
    refine tk 6 ?_
    simp only [Act.put, lt0', lt1', lt2']
    refine tk 8 ?_
    simp only [Act.put, lt0', lt1', lt2']
    refine tk 10 ?_
    simp only [Act.put, lt0', lt1', lt2']
    refine tk 12 ?_
    simp only [Act.put, lt0', lt1', lt2']
    refine tk 14 ?_
    simp only [Act.put, lt0', lt1', lt2']
    refine wpAnyH_ready (rs := [1, 17]) (by kernel_rfl) (by simp) ?_
    refine AllReadyH.cons (by simp only [lg0, lg1, lg2]; rfl) (fun K hK => ?_) ?_
    ·
      go_simp
      (go_at_call 47; refine (gSmallM c r L 0 _ H0.out.nm H0.out.rd).mono ?_)
      rintro q u1 ⟨rfl, h1, f1⟩
      have H1 := Lib.hid (H0.out.call Hd.out h1 f1)
      have n1 := H1.out.num
      clear h1 f1
      refine hK.out _ _ n1 (fun hH1 => ?_)
      clear hK K
      try simp only [Act.put, lt0', lt1', lt2']
      refine wpAnyH_ready (rs := [3, 17]) (by kernel_rfl) (by simp) ?_
      refine AllReadyH.cons (by simp only [lg0, lg1, lg2]; rfl) (fun K hK => ?_) ?_
      ·
        go_simp
        (go_at_call 47; refine (gSmallM c r L 1 _ H1.out.nm H1.out.rd).mono ?_)
        rintro q u2 ⟨rfl, h1, f1⟩
        have H2 := Lib.hid (H1.out.call Hd.out h1 f1)
        have n2 := H2.out.num
        clear h1 f1
        refine hK.out _ _ n2 (fun hH2 => ?_)
        clear hK K
        try simp only [Act.put, lt0', lt1', lt2']
        refine wpAnyH_ready (rs := [5, 17]) (by kernel_rfl) (by simp) ?_
        refine AllReadyH.cons (by simp only [lg0, lg1, lg2]; rfl) (fun K hK => ?_) ?_
        ·
          go_simp
          (go_at_call 47; refine (gSmallM c r L 2 _ H2.out.nm H2.out.rd).mono ?_)
          rintro q u3 ⟨rfl, h1, f1⟩
          have H3 := Lib.hid (H2.out.call Hd.out h1 f1)
          have n3 := H3.out.num
          clear h1 f1
          refine hK.out _ _ n3 (fun hH3 => ?_)
          clear hK K
          try simp only [Act.put, lt0', lt1', lt2']
          refine wpAnyH_ready (rs := [7, 17]) (by kernel_rfl) (by simp) ?_
          refine AllReadyH.cons (by simp only [lg0, lg1, lg2]; rfl) (fun K hK => ?_) ?_
          ·
            go_simp
            (go_at_call 35; refine (vFixAt r L 3 8 _ H3.out.rd (by decide)).mono ?_)
            rintro q u4 ⟨rfl, h1, f1⟩
            have H4 := Lib.hid (H3.out.call Hd.out h1 f1)
            have n4 := H4.out.num
            clear h1 f1
            refine hK.out _ _ n4 (fun hH4 => ?_)
            clear hK K
            try simp only [Act.put, lt0', lt1', lt2']
            refine wpAnyH_ready (rs := [9, 17]) (by kernel_rfl) (by simp) ?_
            refine AllReadyH.cons (by simp only [lg0, lg1, lg2]; rfl) (fun K hK => ?_) ?_
            ·
              go_simp
              (go_at_call 35; refine (vFixAt r L 11 8 _ H4.out.rd (by decide)).mono ?_)
              rintro q u5 ⟨rfl, h1, f1⟩
              have H5 := Lib.hid (H4.out.call Hd.out h1 f1)
              have n5 := H5.out.num
              clear h1 f1
              refine hK.out _ _ n5 (fun hH5 => ?_)
              clear hK K
              try simp only [Act.put, lt0', lt1', lt2']
              refine wpAnyH_ready (rs := [11, 17]) (by kernel_rfl) (by simp) ?_
              refine AllReadyH.cons (by simp only [lg0, lg1, lg2]; rfl) (fun K hK => ?_) ?_
              ·
                go_simp
                (go_at_call 35; refine (vFixAt r L 19 8 _ H5.out.rd (by decide)).mono ?_)
                rintro q u6 ⟨rfl, h1, f1⟩
                have H6 := Lib.hid (H5.out.call Hd.out h1 f1)
                have n6 := H6.out.num
                clear h1 f1
                refine hK.out _ _ n6 (fun hH6 => ?_)
                clear hK K
                try simp only [Act.put, lt0', lt1', lt2']
                refine wpAnyH_ready (rs := [13, 17]) (by kernel_rfl) (by simp) ?_
                refine AllReadyH.cons (by simp only [lg0, lg1, lg2]; rfl) (fun K hK => ?_) ?_
                ·
                  go_simp
                  (go_at_call 35; refine (vFixAt r L 27 8 _ H6.out.rd (by decide)).mono ?_)
                  rintro q u7 ⟨rfl, h1, f1⟩
                  have H7 := Lib.hid (H6.out.call Hd.out h1 f1)
                  have n7 := H7.out.num
                  clear h1 f1
                  refine hK.out _ _ n7 (fun hH7 => ?_)
                  clear hK K
                  try simp only [Act.put, lt0', lt1', lt2']
                  refine wpAnyH_ready (rs := [15, 17]) (by kernel_rfl) (by simp) ?_
                  refine AllReadyH.cons (by simp only [lg0, lg1, lg2]; rfl) (fun K hK => ?_) ?_
                  ·
                    go_simp
                    (go_at_call 35; refine (vFixAt r L 35 8 _ H7.out.rd (by decide)).mono ?_)
                    rintro q u8 ⟨rfl, h1, f1⟩
                    have H8 := Lib.hid (H7.out.call Hd.out h1 f1)
                    have n8 := H8.out.num
                    clear h1 f1
                    refine hK.out _ _ n8 (fun hH8 => ?_)
                    clear hK K
                    try simp only [Act.put, lt0', lt1', lt2']
                    refine tk 16 ?_
                    simp only [Act.put, lt0', lt1', lt2']
                    refine wpAnyH_ready (rs := [17]) (by kernel_rfl) (by simp) ?_
                    refine AllReadyH.cons (by simp only [lg0, lg1, lg2]; rfl) (fun K hK => ?_) AllReadyH.nil
                    go_simp
                    have H9 := Lib.hid (H8.out.new (.cells #[.int .i64 0, .int .i64 0, .int .i64 0, .int .u64 0, .int .u64 0, .int .u64 0, .int .u64 0, .int .u64 0, .bool false, .slice none 0 0, .string ⟨#[]⟩] 47))
                    have HE9 := Lib.hid (Blk.new u8 #[.int .i64 0, .int .i64 0, .int .i64 0, .int .u64 0, .int .u64 0, .int .u64 0, .int .u64 0, .int .u64 0, .bool false, .slice none 0 0, .string ⟨#[]⟩] 47)
                    have HG9 := Lib.hid H8.out.lt
                    have n9 := H9.out.num
                    refine hK.out _ _ n9 (fun hH9 => ?_)
                    clear hK K
                    try simp only [Act.put, lt0', lt1', lt2']
                    generalize u8.alloc (.cells #[.int .i64 0, .int .i64 0, .int .i64 0, .int .u64 0, .int .u64 0, .int .u64 0, .int .u64 0, .int .u64 0, .bool false, .slice none 0 0, .string ⟨#[]⟩] 47) = u9 at *
                    generalize u8.heap.size = b9 at *
                    refine wpAnyH_ready (rs := [18]) (by kernel_rfl) (by simp) ?_
                    refine AllReadyH.cons (by simp only [lg0, lg1, lg2]; rfl) (fun K hK => ?_) AllReadyH.nil
                    go_simp
                    refine stM HE9.out HG9.out H9.out Hd.out ?_
                    intro q0 q1 q2 q3 q4 q5 q6 q7 q8 q9 q10 z0 z1 z2 z3 z4 z5 z6 z7 z8 z9 z10 HY HW HZ
                    go_simp
                    refine hK.out _ _ HZ.out (fun hH10 => ?_)
                    clear hK K
                    refine wpAnyH_done (by kernel_rfl) ?_ _
                    clear q0 z0 q1 z1 q2 z2 q3 z3 q4 z4 q5 z5 q6 z6 q7 z7 q8 z8 q9 z9 q10 z10
                    go_wp2_with fail
                    go_meet
                    exact ⟨b9, rfl, HY.out, HG9.out, HW.out.bk, HW.out.rd, HW.out.nm, HW.out.fr⟩
                  refine AllReadyH.cons (by simp only [lg0, lg1, lg2]; rfl) (fun K hK => ?_) AllReadyH.nil
                  go_simp
                  have H11 := Lib.hid (H7.out.new (.cells #[.int .i64 0, .int .i64 0, .int .i64 0, .int .u64 0, .int .u64 0, .int .u64 0, .int .u64 0, .int .u64 0, .bool false, .slice none 0 0, .string ⟨#[]⟩] 47))
                  have HE11 := Lib.hid (Blk.new u7 #[.int .i64 0, .int .i64 0, .int .i64 0, .int .u64 0, .int .u64 0, .int .u64 0, .int .u64 0, .int .u64 0, .bool false, .slice none 0 0, .string ⟨#[]⟩] 47)
                  have HG11 := Lib.hid H7.out.lt
                  have n11 := H11.out.num
                  refine hK.out _ _ n11 (fun hH11 => ?_)
                  clear hK K
                  try simp only [Act.put, lt0', lt1', lt2']
                  generalize u7.alloc (.cells #[.int .i64 0, .int .i64 0, .int .i64 0, .int .u64 0, .int .u64 0, .int .u64 0, .int .u64 0, .int .u64 0, .bool false, .slice none 0 0, .string ⟨#[]⟩] 47) = u11 at *
                  generalize u7.heap.size = b11 at *
                  refine wpAnyH_ready (rs := [15]) (by kernel_rfl) (by simp) ?_
                  refine AllReadyH.cons (by simp only [lg0, lg1, lg2]; rfl) (fun K hK => ?_) AllReadyH.nil
                  go_simp
                  (go_at_call 35; refine (vFixAt r L 35 8 _ H11.out.rd (by decide)).mono ?_)
                  rintro q u12 ⟨rfl, h1, f1⟩
                  have H12 := Lib.hid (H11.out.call Hd.out h1 f1)
                  have HE12 := Lib.hid (HE11.out.fr f1 (Hd.out.ne HG11.out))
                  have n12 := H12.out.num
                  clear h1 f1
                  refine hK.out _ _ n12 (fun hH12 => ?_)
                  clear hK K
                  try simp only [Act.put, lt0', lt1', lt2']
                  refine tk 16 ?_
                  simp only [Act.put, lt0', lt1', lt2']
                  refine wpAnyH_ready (rs := [18]) (by kernel_rfl) (by simp) ?_
                  refine AllReadyH.cons (by simp only [lg0, lg1, lg2]; rfl) (fun K hK => ?_) AllReadyH.nil
                  go_simp
                  refine stM HE12.out HG11.out H12.out Hd.out ?_
                  intro q0 q1 q2 q3 q4 q5 q6 q7 q8 q9 q10 z0 z1 z2 z3 z4 z5 z6 z7 z8 z9 z10 HY HW HZ
                  go_simp
                  refine hK.out _ _ HZ.out (fun hH13 => ?_)
                  clear hK K
                  refine wpAnyH_done (by kernel_rfl) ?_ _
                  clear q0 z0 q1 z1 q2 z2 q3 z3 q4 z4 q5 z5 q6 z6 q7 z7 q8 z8 q9 z9 q10 z10
                  go_wp2_with fail
                  go_meet
                  exact ⟨b11, rfl, HY.out, HG11.out, HW.out.bk, HW.out.rd, HW.out.nm, HW.out.fr⟩
                refine AllReadyH.cons (by simp only [lg0, lg1, lg2]; rfl) (fun K hK => ?_) AllReadyH.nil
                go_simp
                have H14 := Lib.hid (H6.out.new (.cells #[.int .i64 0, .int .i64 0, .int .i64 0, .int .u64 0, .int .u64 0, .int .u64 0, .int .u64 0, .int .u64 0, .bool false, .slice none 0 0, .string ⟨#[]⟩] 47))
                have HE14 := Lib.hid (Blk.new u6 #[.int .i64 0, .int .i64 0, .int .i64 0, .int .u64 0, .int .u64 0, .int .u64 0, .int .u64 0, .int .u64 0, .bool false, .slice none 0 0, .string ⟨#[]⟩] 47)
                have HG14 := Lib.hid H6.out.lt
                have n14 := H14.out.num
                refine hK.out _ _ n14 (fun hH14 => ?_)
                clear hK K
                try simp only [Act.put, lt0', lt1', lt2']
                generalize u6.alloc (.cells #[.int .i64 0, .int .i64 0, .int .i64 0, .int .u64 0, .int .u64 0, .int .u64 0, .int .u64 0, .int .u64 0, .bool false, .slice none 0 0, .string ⟨#[]⟩] 47) = u14 at *
                generalize u6.heap.size = b14 at *
                refine wpAnyH_ready (rs := [13]) (by kernel_rfl) (by simp) ?_
                refine AllReadyH.cons (by simp only [lg0, lg1, lg2]; rfl) (fun K hK => ?_) AllReadyH.nil
                go_simp
                (go_at_call 35; refine (vFixAt r L 27 8 _ H14.out.rd (by decide)).mono ?_)
                rintro q u15 ⟨rfl, h1, f1⟩
                have H15 := Lib.hid (H14.out.call Hd.out h1 f1)
                have HE15 := Lib.hid (HE14.out.fr f1 (Hd.out.ne HG14.out))
                have n15 := H15.out.num
                clear h1 f1
                refine hK.out _ _ n15 (fun hH15 => ?_)
                clear hK K
                try simp only [Act.put, lt0', lt1', lt2']
                refine wpAnyH_ready (rs := [15]) (by kernel_rfl) (by simp) ?_
                refine AllReadyH.cons (by simp only [lg0, lg1, lg2]; rfl) (fun K hK => ?_) AllReadyH.nil
                go_simp
                (go_at_call 35; refine (vFixAt r L 35 8 _ H15.out.rd (by decide)).mono ?_)
                rintro q u16 ⟨rfl, h1, f1⟩
                have H16 := Lib.hid (H15.out.call Hd.out h1 f1)
                have HE16 := Lib.hid (HE15.out.fr f1 (Hd.out.ne HG14.out))
                have n16 := H16.out.num
                clear h1 f1
                refine hK.out _ _ n16 (fun hH16 => ?_)
                clear hK K
                try simp only [Act.put, lt0', lt1', lt2']
                refine tk 16 ?_
                simp only [Act.put, lt0', lt1', lt2']
                refine wpAnyH_ready (rs := [18]) (by kernel_rfl) (by simp) ?_
                refine AllReadyH.cons (by simp only [lg0, lg1, lg2]; rfl) (fun K hK => ?_) AllReadyH.nil
                go_simp
                refine stM HE16.out HG14.out H16.out Hd.out ?_
                intro q0 q1 q2 q3 q4 q5 q6 q7 q8 q9 q10 z0 z1 z2 z3 z4 z5 z6 z7 z8 z9 z10 HY HW HZ
                go_simp
                refine hK.out _ _ HZ.out (fun hH17 => ?_)
                clear hK K
                refine wpAnyH_done (by kernel_rfl) ?_ _
                clear q0 z0 q1 z1 q2 z2 q3 z3 q4 z4 q5 z5 q6 z6 q7 z7 q8 z8 q9 z9 q10 z10
                go_wp2_with fail
                go_meet
                exact ⟨b14, rfl, HY.out, HG14.out, HW.out.bk, HW.out.rd, HW.out.nm, HW.out.fr⟩
              refine AllReadyH.cons (by simp only [lg0, lg1, lg2]; rfl) (fun K hK => ?_) AllReadyH.nil
              go_simp
              have H18 := Lib.hid (H5.out.new (.cells #[.int .i64 0, .int .i64 0, .int .i64 0, .int .u64 0, .int .u64 0, .int .u64 0, .int .u64 0, .int .u64 0, .bool false, .slice none 0 0, .string ⟨#[]⟩] 47))
              have HE18 := Lib.hid (Blk.new u5 #[.int .i64 0, .int .i64 0, .int .i64 0, .int .u64 0, .int .u64 0, .int .u64 0, .int .u64 0, .int .u64 0, .bool false, .slice none 0 0, .string ⟨#[]⟩] 47)
              have HG18 := Lib.hid H5.out.lt
              have n18 := H18.out.num
              refine hK.out _ _ n18 (fun hH18 => ?_)
              clear hK K
              try simp only [Act.put, lt0', lt1', lt2']
              generalize u5.alloc (.cells #[.int .i64 0, .int .i64 0, .int .i64 0, .int .u64 0, .int .u64 0, .int .u64 0, .int .u64 0, .int .u64 0, .bool false, .slice none 0 0, .string ⟨#[]⟩] 47) = u18 at *
              generalize u5.heap.size = b18 at *
              refine wpAnyH_ready (rs := [11]) (by kernel_rfl) (by simp) ?_
              refine AllReadyH.cons (by simp only [lg0, lg1, lg2]; rfl) (fun K hK => ?_) AllReadyH.nil
              go_simp
              (go_at_call 35; refine (vFixAt r L 19 8 _ H18.out.rd (by decide)).mono ?_)
              rintro q u19 ⟨rfl, h1, f1⟩
              have H19 := Lib.hid (H18.out.call Hd.out h1 f1)
              have HE19 := Lib.hid (HE18.out.fr f1 (Hd.out.ne HG18.out))
              have n19 := H19.out.num
              clear h1 f1
              refine hK.out _ _ n19 (fun hH19 => ?_)
              clear hK K
              try simp only [Act.put, lt0', lt1', lt2']
              refine wpAnyH_ready (rs := [13]) (by kernel_rfl) (by simp) ?_
              refine AllReadyH.cons (by simp only [lg0, lg1, lg2]; rfl) (fun K hK => ?_) AllReadyH.nil
              go_simp
              (go_at_call 35; refine (vFixAt r L 27 8 _ H19.out.rd (by decide)).mono ?_)
              rintro q u20 ⟨rfl, h1, f1⟩
              have H20 := Lib.hid (H19.out.call Hd.out h1 f1)
              have HE20 := Lib.hid (HE19.out.fr f1 (Hd.out.ne HG18.out))
              have n20 := H20.out.num
              clear h1 f1
              refine hK.out _ _ n20 (fun hH20 => ?_)
              clear hK K
              try simp only [Act.put, lt0', lt1', lt2']
              refine wpAnyH_ready (rs := [15]) (by kernel_rfl) (by simp) ?_
              refine AllReadyH.cons (by simp only [lg0, lg1, lg2]; rfl) (fun K hK => ?_) AllReadyH.nil
              go_simp
              (go_at_call 35; refine (vFixAt r L 35 8 _ H20.out.rd (by decide)).mono ?_)
              rintro q u21 ⟨rfl, h1, f1⟩
              have H21 := Lib.hid (H20.out.call Hd.out h1 f1)
              have HE21 := Lib.hid (HE20.out.fr f1 (Hd.out.ne HG18.out))
              have n21 := H21.out.num
              clear h1 f1
              refine hK.out _ _ n21 (fun hH21 => ?_)
              clear hK K
              try simp only [Act.put, lt0', lt1', lt2']
              refine tk 16 ?_
              simp only [Act.put, lt0', lt1', lt2']
              refine wpAnyH_ready (rs := [18]) (by kernel_rfl) (by simp) ?_
              refine AllReadyH.cons (by simp only [lg0, lg1, lg2]; rfl) (fun K hK => ?_) AllReadyH.nil
              go_simp
              refine stM HE21.out HG18.out H21.out Hd.out ?_
              intro q0 q1 q2 q3 q4 q5 q6 q7 q8 q9 q10 z0 z1 z2 z3 z4 z5 z6 z7 z8 z9 z10 HY HW HZ
              go_simp
              refine hK.out _ _ HZ.out (fun hH22 => ?_)
              clear hK K
              refine wpAnyH_done (by kernel_rfl) ?_ _
              clear q0 z0 q1 z1 q2 z2 q3 z3 q4 z4 q5 z5 q6 z6 q7 z7 q8 z8 q9 z9 q10 z10
              go_wp2_with fail
              go_meet
              exact ⟨b18, rfl, HY.out, HG18.out, HW.out.bk, HW.out.rd, HW.out.nm, HW.out.fr⟩
            refine AllReadyH.cons (by simp only [lg0, lg1, lg2]; rfl) (fun K hK => ?_) AllReadyH.nil
            go_simp
            have H23 := Lib.hid (H4.out.new (.cells #[.int .i64 0, .int .i64 0, .int .i64 0, .int .u64 0, .int .u64 0, .int .u64 0, .int .u64 0, .int .u64 0, .bool false, .slice none 0 0, .string ⟨#[]⟩] 47))
            have HE23 := Lib.hid (Blk.new u4 #[.int .i64 0, .int .i64 0, .int .i64 0, .int .u64 0, .int .u64 0, .int .u64 0, .int .u64 0, .int .u64 0, .bool false, .slice none 0 0, .string ⟨#[]⟩] 47)
            have HG23 := Lib.hid H4.out.lt
            have n23 := H23.out.num
            refine hK.out _ _ n23 (fun hH23 => ?_)
            clear hK K
            try simp only [Act.put, lt0', lt1', lt2']
            generalize u4.alloc (.cells #[.int .i64 0, .int .i64 0, .int .i64 0, .int .u64 0, .int .u64 0, .int .u64 0, .int .u64 0, .int .u64 0, .bool false, .slice none 0 0, .string ⟨#[]⟩] 47) = u23 at *
            generalize u4.heap.size = b23 at *
            refine wpAnyH_ready (rs := [9]) (by kernel_rfl) (by simp) ?_
            refine AllReadyH.cons (by simp only [lg0, lg1, lg2]; rfl) (fun K hK => ?_) AllReadyH.nil
            go_simp
            (go_at_call 35; refine (vFixAt r L 11 8 _ H23.out.rd (by decide)).mono ?_)
            rintro q u24 ⟨rfl, h1, f1⟩
            have H24 := Lib.hid (H23.out.call Hd.out h1 f1)
            have HE24 := Lib.hid (HE23.out.fr f1 (Hd.out.ne HG23.out))
            have n24 := H24.out.num
            clear h1 f1
            refine hK.out _ _ n24 (fun hH24 => ?_)
            clear hK K
            try simp only [Act.put, lt0', lt1', lt2']
            refine wpAnyH_ready (rs := [11]) (by kernel_rfl) (by simp) ?_
            refine AllReadyH.cons (by simp only [lg0, lg1, lg2]; rfl) (fun K hK => ?_) AllReadyH.nil
            go_simp
            (go_at_call 35; refine (vFixAt r L 19 8 _ H24.out.rd (by decide)).mono ?_)
            rintro q u25 ⟨rfl, h1, f1⟩
            have H25 := Lib.hid (H24.out.call Hd.out h1 f1)
            have HE25 := Lib.hid (HE24.out.fr f1 (Hd.out.ne HG23.out))
            have n25 := H25.out.num
            clear h1 f1
            refine hK.out _ _ n25 (fun hH25 => ?_)
            clear hK K
            try simp only [Act.put, lt0', lt1', lt2']
            refine wpAnyH_ready (rs := [13]) (by kernel_rfl) (by simp) ?_
            refine AllReadyH.cons (by simp only [lg0, lg1, lg2]; rfl) (fun K hK => ?_) AllReadyH.nil
            go_simp
            (go_at_call 35; refine (vFixAt r L 27 8 _ H25.out.rd (by decide)).mono ?_)
            rintro q u26 ⟨rfl, h1, f1⟩
            have H26 := Lib.hid (H25.out.call Hd.out h1 f1)
            have HE26 := Lib.hid (HE25.out.fr f1 (Hd.out.ne HG23.out))
            have n26 := H26.out.num
            clear h1 f1
            refine hK.out _ _ n26 (fun hH26 => ?_)
            clear hK K
            try simp only [Act.put, lt0', lt1', lt2']
            refine wpAnyH_ready (rs := [15]) (by kernel_rfl) (by simp) ?_
            refine AllReadyH.cons (by simp only [lg0, lg1, lg2]; rfl) (fun K hK => ?_) AllReadyH.nil
            go_simp
            (go_at_call 35; refine (vFixAt r L 35 8 _ H26.out.rd (by decide)).mono ?_)
            rintro q u27 ⟨rfl, h1, f1⟩
            have H27 := Lib.hid (H26.out.call Hd.out h1 f1)
            have HE27 := Lib.hid (HE26.out.fr f1 (Hd.out.ne HG23.out))
            have n27 := H27.out.num
            clear h1 f1
            refine hK.out _ _ n27 (fun hH27 => ?_)
            clear hK K
            try simp only [Act.put, lt0', lt1', lt2']
            refine tk 16 ?_
            simp only [Act.put, lt0', lt1', lt2']
            refine wpAnyH_ready (rs := [18]) (by kernel_rfl) (by simp) ?_
            refine AllReadyH.cons (by simp only [lg0, lg1, lg2]; rfl) (fun K hK => ?_) AllReadyH.nil
            go_simp
            refine stM HE27.out HG23.out H27.out Hd.out ?_
            intro q0 q1 q2 q3 q4 q5 q6 q7 q8 q9 q10 z0 z1 z2 z3 z4 z5 z6 z7 z8 z9 z10 HY HW HZ
            go_simp
            refine hK.out _ _ HZ.out (fun hH28 => ?_)
            clear hK K
            refine wpAnyH_done (by kernel_rfl) ?_ _
            clear q0 z0 q1 z1 q2 z2 q3 z3 q4 z4 q5 z5 q6 z6 q7 z7 q8 z8 q9 z9 q10 z10
            go_wp2_with fail
            go_meet
            exact ⟨b23, rfl, HY.out, HG23.out, HW.out.bk, HW.out.rd, HW.out.nm, HW.out.fr⟩
          refine AllReadyH.cons (by simp only [lg0, lg1, lg2]; rfl) (fun K hK => ?_) AllReadyH.nil
          go_simp
          have H29 := Lib.hid (H3.out.new (.cells #[.int .i64 0, .int .i64 0, .int .i64 0, .int .u64 0, .int .u64 0, .int .u64 0, .int .u64 0, .int .u64 0, .bool false, .slice none 0 0, .string ⟨#[]⟩] 47))
          have HE29 := Lib.hid (Blk.new u3 #[.int .i64 0, .int .i64 0, .int .i64 0, .int .u64 0, .int .u64 0, .int .u64 0, .int .u64 0, .int .u64 0, .bool false, .slice none 0 0, .string ⟨#[]⟩] 47)
          have HG29 := Lib.hid H3.out.lt
          have n29 := H29.out.num
          refine hK.out _ _ n29 (fun hH29 => ?_)
          clear hK K
          try simp only [Act.put, lt0', lt1', lt2']
          generalize u3.alloc (.cells #[.int .i64 0, .int .i64 0, .int .i64 0, .int .u64 0, .int .u64 0, .int .u64 0, .int .u64 0, .int .u64 0, .bool false, .slice none 0 0, .string ⟨#[]⟩] 47) = u29 at *
          generalize u3.heap.size = b29 at *
          refine wpAnyH_ready (rs := [7]) (by kernel_rfl) (by simp) ?_
          refine AllReadyH.cons (by simp only [lg0, lg1, lg2]; rfl) (fun K hK => ?_) AllReadyH.nil
          go_simp
          (go_at_call 35; refine (vFixAt r L 3 8 _ H29.out.rd (by decide)).mono ?_)
          rintro q u30 ⟨rfl, h1, f1⟩
          have H30 := Lib.hid (H29.out.call Hd.out h1 f1)
          have HE30 := Lib.hid (HE29.out.fr f1 (Hd.out.ne HG29.out))
          have n30 := H30.out.num
          clear h1 f1
          refine hK.out _ _ n30 (fun hH30 => ?_)
          clear hK K
          try simp only [Act.put, lt0', lt1', lt2']
          refine wpAnyH_ready (rs := [9]) (by kernel_rfl) (by simp) ?_
          refine AllReadyH.cons (by simp only [lg0, lg1, lg2]; rfl) (fun K hK => ?_) AllReadyH.nil
          go_simp
          (go_at_call 35; refine (vFixAt r L 11 8 _ H30.out.rd (by decide)).mono ?_)
          rintro q u31 ⟨rfl, h1, f1⟩
          have H31 := Lib.hid (H30.out.call Hd.out h1 f1)
          have HE31 := Lib.hid (HE30.out.fr f1 (Hd.out.ne HG29.out))
          have n31 := H31.out.num
          clear h1 f1
          refine hK.out _ _ n31 (fun hH31 => ?_)
          clear hK K
          try simp only [Act.put, lt0', lt1', lt2']
          refine wpAnyH_ready (rs := [11]) (by kernel_rfl) (by simp) ?_
          refine AllReadyH.cons (by simp only [lg0, lg1, lg2]; rfl) (fun K hK => ?_) AllReadyH.nil
          go_simp
          (go_at_call 35; refine (vFixAt r L 19 8 _ H31.out.rd (by decide)).mono ?_)
          rintro q u32 ⟨rfl, h1, f1⟩
          have H32 := Lib.hid (H31.out.call Hd.out h1 f1)
          have HE32 := Lib.hid (HE31.out.fr f1 (Hd.out.ne HG29.out))
          have n32 := H32.out.num
          clear h1 f1
          refine hK.out _ _ n32 (fun hH32 => ?_)
          clear hK K
          try simp only [Act.put, lt0', lt1', lt2']
          refine wpAnyH_ready (rs := [13]) (by kernel_rfl) (by simp) ?_
          refine AllReadyH.cons (by simp only [lg0, lg1, lg2]; rfl) (fun K hK => ?_) AllReadyH.nil
          go_simp
          (go_at_call 35; refine (vFixAt r L 27 8 _ H32.out.rd (by decide)).mono ?_)
          rintro q u33 ⟨rfl, h1, f1⟩
          have H33 := Lib.hid (H32.out.call Hd.out h1 f1)
          have HE33 := Lib.hid (HE32.out.fr f1 (Hd.out.ne HG29.out))
          have n33 := H33.out.num
          clear h1 f1
          refine hK.out _ _ n33 (fun hH33 => ?_)
          clear hK K
          try simp only [Act.put, lt0', lt1', lt2']
          refine wpAnyH_ready (rs := [15]) (by kernel_rfl) (by simp) ?_
          refine AllReadyH.cons (by simp only [lg0, lg1, lg2]; rfl) (fun K hK => ?_) AllReadyH.nil
          go_simp
          (go_at_call 35; refine (vFixAt r L 35 8 _ H33.out.rd (by decide)).mono ?_)
          rintro q u34 ⟨rfl, h1, f1⟩
          have H34 := Lib.hid (H33.out.call Hd.out h1 f1)
          have HE34 := Lib.hid (HE33.out.fr f1 (Hd.out.ne HG29.out))
          have n34 := H34.out.num
          clear h1 f1
          refine hK.out _ _ n34 (fun hH34 => ?_)
          clear hK K
          try simp only [Act.put, lt0', lt1', lt2']
          refine tk 16 ?_
          simp only [Act.put, lt0', lt1', lt2']
          refine wpAnyH_ready (rs := [18]) (by kernel_rfl) (by simp) ?_
          refine AllReadyH.cons (by simp only [lg0, lg1, lg2]; rfl) (fun K hK => ?_) AllReadyH.nil
          go_simp
          refine stM HE34.out HG29.out H34.out Hd.out ?_
          intro q0 q1 q2 q3 q4 q5 q6 q7 q8 q9 q10 z0 z1 z2 z3 z4 z5 z6 z7 z8 z9 z10 HY HW HZ
          go_simp
          refine hK.out _ _ HZ.out (fun hH35 => ?_)
          clear hK K
          refine wpAnyH_done (by kernel_rfl) ?_ _
          clear q0 z0 q1 z1 q2 z2 q3 z3 q4 z4 q5 z5 q6 z6 q7 z7 q8 z8 q9 z9 q10 z10
          go_wp2_with fail
          go_meet
          exact ⟨b29, rfl, HY.out, HG29.out, HW.out.bk, HW.out.rd, HW.out.nm, HW.out.fr⟩
        refine AllReadyH.cons (by simp only [lg0, lg1, lg2]; rfl) (fun K hK => ?_) AllReadyH.nil
        go_simp
        have H36 := Lib.hid (H2.out.new (.cells #[.int .i64 0, .int .i64 0, .int .i64 0, .int .u64 0, .int .u64 0, .int .u64 0, .int .u64 0, .int .u64 0, .bool false, .slice none 0 0, .string ⟨#[]⟩] 47))
        have HE36 := Lib.hid (Blk.new u2 #[.int .i64 0, .int .i64 0, .int .i64 0, .int .u64 0, .int .u64 0, .int .u64 0, .int .u64 0, .int .u64 0, .bool false, .slice none 0 0, .string ⟨#[]⟩] 47)
        have HG36 := Lib.hid H2.out.lt
        have n36 := H36.out.num
        refine hK.out _ _ n36 (fun hH36 => ?_)
        clear hK K
        try simp only [Act.put, lt0', lt1', lt2']
        generalize u2.alloc (.cells #[.int .i64 0, .int .i64 0, .int .i64 0, .int .u64 0, .int .u64 0, .int .u64 0, .int .u64 0, .int .u64 0, .bool false, .slice none 0 0, .string ⟨#[]⟩] 47) = u36 at *
        generalize u2.heap.size = b36 at *
        refine wpAnyH_ready (rs := [5]) (by kernel_rfl) (by simp) ?_
        refine AllReadyH.cons (by simp only [lg0, lg1, lg2]; rfl) (fun K hK => ?_) AllReadyH.nil
        go_simp
        (go_at_call 47; refine (gSmallM c r L 2 _ H36.out.nm H36.out.rd).mono ?_)
        rintro q u37 ⟨rfl, h1, f1⟩
        have H37 := Lib.hid (H36.out.call Hd.out h1 f1)
        have HE37 := Lib.hid (HE36.out.fr f1 (Hd.out.ne HG36.out))
        have n37 := H37.out.num
        clear h1 f1
        refine hK.out _ _ n37 (fun hH37 => ?_)
        clear hK K
        try simp only [Act.put, lt0', lt1', lt2']
        refine wpAnyH_ready (rs := [7]) (by kernel_rfl) (by simp) ?_
        refine AllReadyH.cons (by simp only [lg0, lg1, lg2]; rfl) (fun K hK => ?_) AllReadyH.nil
        go_simp
        (go_at_call 35; refine (vFixAt r L 3 8 _ H37.out.rd (by decide)).mono ?_)
        rintro q u38 ⟨rfl, h1, f1⟩
        have H38 := Lib.hid (H37.out.call Hd.out h1 f1)
        have HE38 := Lib.hid (HE37.out.fr f1 (Hd.out.ne HG36.out))
        have n38 := H38.out.num
        clear h1 f1
        refine hK.out _ _ n38 (fun hH38 => ?_)
        clear hK K
        try simp only [Act.put, lt0', lt1', lt2']
        refine wpAnyH_ready (rs := [9]) (by kernel_rfl) (by simp) ?_
        refine AllReadyH.cons (by simp only [lg0, lg1, lg2]; rfl) (fun K hK => ?_) AllReadyH.nil
        go_simp
        (go_at_call 35; refine (vFixAt r L 11 8 _ H38.out.rd (by decide)).mono ?_)
        rintro q u39 ⟨rfl, h1, f1⟩
        have H39 := Lib.hid (H38.out.call Hd.out h1 f1)
        have HE39 := Lib.hid (HE38.out.fr f1 (Hd.out.ne HG36.out))
        have n39 := H39.out.num
        clear h1 f1
        refine hK.out _ _ n39 (fun hH39 => ?_)
        clear hK K
        try simp only [Act.put, lt0', lt1', lt2']
        refine wpAnyH_ready (rs := [11]) (by kernel_rfl) (by simp) ?_
        refine AllReadyH.cons (by simp only [lg0, lg1, lg2]; rfl) (fun K hK => ?_) AllReadyH.nil
        go_simp
        (go_at_call 35; refine (vFixAt r L 19 8 _ H39.out.rd (by decide)).mono ?_)
        rintro q u40 ⟨rfl, h1, f1⟩
        have H40 := Lib.hid (H39.out.call Hd.out h1 f1)
        have HE40 := Lib.hid (HE39.out.fr f1 (Hd.out.ne HG36.out))
        have n40 := H40.out.num
        clear h1 f1
        refine hK.out _ _ n40 (fun hH40 => ?_)
        clear hK K
        try simp only [Act.put, lt0', lt1', lt2']
        refine wpAnyH_ready (rs := [13]) (by kernel_rfl) (by simp) ?_
        refine AllReadyH.cons (by simp only [lg0, lg1, lg2]; rfl) (fun K hK => ?_) AllReadyH.nil
        go_simp
        (go_at_call 35; refine (vFixAt r L 27 8 _ H40.out.rd (by decide)).mono ?_)
        rintro q u41 ⟨rfl, h1, f1⟩
        have H41 := Lib.hid (H40.out.call Hd.out h1 f1)
        have HE41 := Lib.hid (HE40.out.fr f1 (Hd.out.ne HG36.out))
        have n41 := H41.out.num
        clear h1 f1
        refine hK.out _ _ n41 (fun hH41 => ?_)
        clear hK K
        try simp only [Act.put, lt0', lt1', lt2']
        refine wpAnyH_ready (rs := [15]) (by kernel_rfl) (by simp) ?_
        refine AllReadyH.cons (by simp only [lg0, lg1, lg2]; rfl) (fun K hK => ?_) AllReadyH.nil
        go_simp
        (go_at_call 35; refine (vFixAt r L 35 8 _ H41.out.rd (by decide)).mono ?_)
        rintro q u42 ⟨rfl, h1, f1⟩
        have H42 := Lib.hid (H41.out.call Hd.out h1 f1)
        have HE42 := Lib.hid (HE41.out.fr f1 (Hd.out.ne HG36.out))
        have n42 := H42.out.num
        clear h1 f1
        refine hK.out _ _ n42 (fun hH42 => ?_)
        clear hK K
        try simp only [Act.put, lt0', lt1', lt2']
        refine tk 16 ?_
        simp only [Act.put, lt0', lt1', lt2']
        refine wpAnyH_ready (rs := [18]) (by kernel_rfl) (by simp) ?_
        refine AllReadyH.cons (by simp only [lg0, lg1, lg2]; rfl) (fun K hK => ?_) AllReadyH.nil
        go_simp
        refine stM HE42.out HG36.out H42.out Hd.out ?_
        intro q0 q1 q2 q3 q4 q5 q6 q7 q8 q9 q10 z0 z1 z2 z3 z4 z5 z6 z7 z8 z9 z10 HY HW HZ
        go_simp
        refine hK.out _ _ HZ.out (fun hH43 => ?_)
        clear hK K
        refine wpAnyH_done (by kernel_rfl) ?_ _
        clear q0 z0 q1 z1 q2 z2 q3 z3 q4 z4 q5 z5 q6 z6 q7 z7 q8 z8 q9 z9 q10 z10
        go_wp2_with fail
        go_meet
        exact ⟨b36, rfl, HY.out, HG36.out, HW.out.bk, HW.out.rd, HW.out.nm, HW.out.fr⟩
      refine AllReadyH.cons (by simp only [lg0, lg1, lg2]; rfl) (fun K hK => ?_) AllReadyH.nil
      go_simp
      have H44 := Lib.hid (H1.out.new (.cells #[.int .i64 0, .int .i64 0, .int .i64 0, .int .u64 0, .int .u64 0, .int .u64 0, .int .u64 0, .int .u64 0, .bool false, .slice none 0 0, .string ⟨#[]⟩] 47))
      have HE44 := Lib.hid (Blk.new u1 #[.int .i64 0, .int .i64 0, .int .i64 0, .int .u64 0, .int .u64 0, .int .u64 0, .int .u64 0, .int .u64 0, .bool false, .slice none 0 0, .string ⟨#[]⟩] 47)
      have HG44 := Lib.hid H1.out.lt
      have n44 := H44.out.num
      refine hK.out _ _ n44 (fun hH44 => ?_)
      clear hK K
      try simp only [Act.put, lt0', lt1', lt2']
      generalize u1.alloc (.cells #[.int .i64 0, .int .i64 0, .int .i64 0, .int .u64 0, .int .u64 0, .int .u64 0, .int .u64 0, .int .u64 0, .bool false, .slice none 0 0, .string ⟨#[]⟩] 47) = u44 at *
      generalize u1.heap.size = b44 at *
      refine wpAnyH_ready (rs := [3]) (by kernel_rfl) (by simp) ?_
      refine AllReadyH.cons (by simp only [lg0, lg1, lg2]; rfl) (fun K hK => ?_) AllReadyH.nil
      go_simp
      (go_at_call 47; refine (gSmallM c r L 1 _ H44.out.nm H44.out.rd).mono ?_)
      rintro q u45 ⟨rfl, h1, f1⟩
      have H45 := Lib.hid (H44.out.call Hd.out h1 f1)
      have HE45 := Lib.hid (HE44.out.fr f1 (Hd.out.ne HG44.out))
      have n45 := H45.out.num
      clear h1 f1
      refine hK.out _ _ n45 (fun hH45 => ?_)
      clear hK K
      try simp only [Act.put, lt0', lt1', lt2']
      refine wpAnyH_ready (rs := [5]) (by kernel_rfl) (by simp) ?_
      refine AllReadyH.cons (by simp only [lg0, lg1, lg2]; rfl) (fun K hK => ?_) AllReadyH.nil
      go_simp
      (go_at_call 47; refine (gSmallM c r L 2 _ H45.out.nm H45.out.rd).mono ?_)
      rintro q u46 ⟨rfl, h1, f1⟩
      have H46 := Lib.hid (H45.out.call Hd.out h1 f1)
      have HE46 := Lib.hid (HE45.out.fr f1 (Hd.out.ne HG44.out))
      have n46 := H46.out.num
      clear h1 f1
      refine hK.out _ _ n46 (fun hH46 => ?_)
      clear hK K
      try simp only [Act.put, lt0', lt1', lt2']
      refine wpAnyH_ready (rs := [7]) (by kernel_rfl) (by simp) ?_
      refine AllReadyH.cons (by simp only [lg0, lg1, lg2]; rfl) (fun K hK => ?_) AllReadyH.nil
      go_simp
      (go_at_call 35; refine (vFixAt r L 3 8 _ H46.out.rd (by decide)).mono ?_)
      rintro q u47 ⟨rfl, h1, f1⟩
      have H47 := Lib.hid (H46.out.call Hd.out h1 f1)
      have HE47 := Lib.hid (HE46.out.fr f1 (Hd.out.ne HG44.out))
      have n47 := H47.out.num
      clear h1 f1
      refine hK.out _ _ n47 (fun hH47 => ?_)
      clear hK K
      try simp only [Act.put, lt0', lt1', lt2']
      refine wpAnyH_ready (rs := [9]) (by kernel_rfl) (by simp) ?_
      refine AllReadyH.cons (by simp only [lg0, lg1, lg2]; rfl) (fun K hK => ?_) AllReadyH.nil
      go_simp
      (go_at_call 35; refine (vFixAt r L 11 8 _ H47.out.rd (by decide)).mono ?_)
      rintro q u48 ⟨rfl, h1, f1⟩
      have H48 := Lib.hid (H47.out.call Hd.out h1 f1)
      have HE48 := Lib.hid (HE47.out.fr f1 (Hd.out.ne HG44.out))
      have n48 := H48.out.num
      clear h1 f1
      refine hK.out _ _ n48 (fun hH48 => ?_)
      clear hK K
      try simp only [Act.put, lt0', lt1', lt2']
      refine wpAnyH_ready (rs := [11]) (by kernel_rfl) (by simp) ?_
      refine AllReadyH.cons (by simp only [lg0, lg1, lg2]; rfl) (fun K hK => ?_) AllReadyH.nil
      go_simp
      (go_at_call 35; refine (vFixAt r L 19 8 _ H48.out.rd (by decide)).mono ?_)
      rintro q u49 ⟨rfl, h1, f1⟩
      have H49 := Lib.hid (H48.out.call Hd.out h1 f1)
      have HE49 := Lib.hid (HE48.out.fr f1 (Hd.out.ne HG44.out))
      have n49 := H49.out.num
      clear h1 f1
      refine hK.out _ _ n49 (fun hH49 => ?_)
      clear hK K
      try simp only [Act.put, lt0', lt1', lt2']
      refine wpAnyH_ready (rs := [13]) (by kernel_rfl) (by simp) ?_
      refine AllReadyH.cons (by simp only [lg0, lg1, lg2]; rfl) (fun K hK => ?_) AllReadyH.nil
      go_simp
      (go_at_call 35; refine (vFixAt r L 27 8 _ H49.out.rd (by decide)).mono ?_)
      rintro q u50 ⟨rfl, h1, f1⟩
      have H50 := Lib.hid (H49.out.call Hd.out h1 f1)
      have HE50 := Lib.hid (HE49.out.fr f1 (Hd.out.ne HG44.out))
      have n50 := H50.out.num
      clear h1 f1
      refine hK.out _ _ n50 (fun hH50 => ?_)
      clear hK K
      try simp only [Act.put, lt0', lt1', lt2']
      refine wpAnyH_ready (rs := [15]) (by kernel_rfl) (by simp) ?_
      refine AllReadyH.cons (by simp only [lg0, lg1, lg2]; rfl) (fun K hK => ?_) AllReadyH.nil
      go_simp
      (go_at_call 35; refine (vFixAt r L 35 8 _ H50.out.rd (by decide)).mono ?_)
      rintro q u51 ⟨rfl, h1, f1⟩
      have H51 := Lib.hid (H50.out.call Hd.out h1 f1)
      have HE51 := Lib.hid (HE50.out.fr f1 (Hd.out.ne HG44.out))
      have n51 := H51.out.num
      clear h1 f1
      refine hK.out _ _ n51 (fun hH51 => ?_)
      clear hK K
      try simp only [Act.put, lt0', lt1', lt2']
      refine tk 16 ?_
      simp only [Act.put, lt0', lt1', lt2']
      refine wpAnyH_ready (rs := [18]) (by kernel_rfl) (by simp) ?_
      refine AllReadyH.cons (by simp only [lg0, lg1, lg2]; rfl) (fun K hK => ?_) AllReadyH.nil
      go_simp
      refine stM HE51.out HG44.out H51.out Hd.out ?_
      intro q0 q1 q2 q3 q4 q5 q6 q7 q8 q9 q10 z0 z1 z2 z3 z4 z5 z6 z7 z8 z9 z10 HY HW HZ
      go_simp
      refine hK.out _ _ HZ.out (fun hH52 => ?_)
      clear hK K
      refine wpAnyH_done (by kernel_rfl) ?_ _
      clear q0 z0 q1 z1 q2 z2 q3 z3 q4 z4 q5 z5 q6 z6 q7 z7 q8 z8 q9 z9 q10 z10
      go_wp2_with fail
      go_meet
      exact ⟨b44, rfl, HY.out, HG44.out, HW.out.bk, HW.out.rd, HW.out.nm, HW.out.fr⟩
    refine AllReadyH.cons (by simp only [lg0, lg1, lg2]; rfl) (fun K hK => ?_) AllReadyH.nil
    go_simp
    have H53 := Lib.hid (H0.out.new (.cells #[.int .i64 0, .int .i64 0, .int .i64 0, .int .u64 0, .int .u64 0, .int .u64 0, .int .u64 0, .int .u64 0, .bool false, .slice none 0 0, .string ⟨#[]⟩] 47))
    have HE53 := Lib.hid (Blk.new U0 #[.int .i64 0, .int .i64 0, .int .i64 0, .int .u64 0, .int .u64 0, .int .u64 0, .int .u64 0, .int .u64 0, .bool false, .slice none 0 0, .string ⟨#[]⟩] 47)
    have HG53 := Lib.hid H0.out.lt
    have n53 := H53.out.num
    refine hK.out _ _ n53 (fun hH53 => ?_)
    clear hK K
    try simp only [Act.put, lt0', lt1', lt2']
    generalize U0.alloc (.cells #[.int .i64 0, .int .i64 0, .int .i64 0, .int .u64 0, .int .u64 0, .int .u64 0, .int .u64 0, .int .u64 0, .bool false, .slice none 0 0, .string ⟨#[]⟩] 47) = u53 at *
    generalize U0.heap.size = b53 at *
    refine wpAnyH_ready (rs := [1]) (by kernel_rfl) (by simp) ?_
    refine AllReadyH.cons (by simp only [lg0, lg1, lg2]; rfl) (fun K hK => ?_) AllReadyH.nil
    go_simp
    (go_at_call 47; refine (gSmallM c r L 0 _ H53.out.nm H53.out.rd).mono ?_)
    rintro q u54 ⟨rfl, h1, f1⟩
    have H54 := Lib.hid (H53.out.call Hd.out h1 f1)
    have HE54 := Lib.hid (HE53.out.fr f1 (Hd.out.ne HG53.out))
    have n54 := H54.out.num
    clear h1 f1
    refine hK.out _ _ n54 (fun hH54 => ?_)
    clear hK K
    try simp only [Act.put, lt0', lt1', lt2']
    refine wpAnyH_ready (rs := [3]) (by kernel_rfl) (by simp) ?_
    refine AllReadyH.cons (by simp only [lg0, lg1, lg2]; rfl) (fun K hK => ?_) AllReadyH.nil
    go_simp
    (go_at_call 47; refine (gSmallM c r L 1 _ H54.out.nm H54.out.rd).mono ?_)
    rintro q u55 ⟨rfl, h1, f1⟩
    have H55 := Lib.hid (H54.out.call Hd.out h1 f1)
    have HE55 := Lib.hid (HE54.out.fr f1 (Hd.out.ne HG53.out))
    have n55 := H55.out.num
    clear h1 f1
    refine hK.out _ _ n55 (fun hH55 => ?_)
    clear hK K
    try simp only [Act.put, lt0', lt1', lt2']
    refine wpAnyH_ready (rs := [5]) (by kernel_rfl) (by simp) ?_
    refine AllReadyH.cons (by simp only [lg0, lg1, lg2]; rfl) (fun K hK => ?_) AllReadyH.nil
    go_simp
    (go_at_call 47; refine (gSmallM c r L 2 _ H55.out.nm H55.out.rd).mono ?_)
    rintro q u56 ⟨rfl, h1, f1⟩
    have H56 := Lib.hid (H55.out.call Hd.out h1 f1)
    have HE56 := Lib.hid (HE55.out.fr f1 (Hd.out.ne HG53.out))
    have n56 := H56.out.num
    clear h1 f1
    refine hK.out _ _ n56 (fun hH56 => ?_)
    clear hK K
    try simp only [Act.put, lt0', lt1', lt2']
    refine wpAnyH_ready (rs := [7]) (by kernel_rfl) (by simp) ?_
    refine AllReadyH.cons (by simp only [lg0, lg1, lg2]; rfl) (fun K hK => ?_) AllReadyH.nil
    go_simp
    (go_at_call 35; refine (vFixAt r L 3 8 _ H56.out.rd (by decide)).mono ?_)
    rintro q u57 ⟨rfl, h1, f1⟩
    have H57 := Lib.hid (H56.out.call Hd.out h1 f1)
    have HE57 := Lib.hid (HE56.out.fr f1 (Hd.out.ne HG53.out))
    have n57 := H57.out.num
    clear h1 f1
    refine hK.out _ _ n57 (fun hH57 => ?_)
    clear hK K
    try simp only [Act.put, lt0', lt1', lt2']
    refine wpAnyH_ready (rs := [9]) (by kernel_rfl) (by simp) ?_
    refine AllReadyH.cons (by simp only [lg0, lg1, lg2]; rfl) (fun K hK => ?_) AllReadyH.nil
    go_simp
    (go_at_call 35; refine (vFixAt r L 11 8 _ H57.out.rd (by decide)).mono ?_)
    rintro q u58 ⟨rfl, h1, f1⟩
    have H58 := Lib.hid (H57.out.call Hd.out h1 f1)
    have HE58 := Lib.hid (HE57.out.fr f1 (Hd.out.ne HG53.out))
    have n58 := H58.out.num
    clear h1 f1
    refine hK.out _ _ n58 (fun hH58 => ?_)
    clear hK K
    try simp only [Act.put, lt0', lt1', lt2']
    refine wpAnyH_ready (rs := [11]) (by kernel_rfl) (by simp) ?_
    refine AllReadyH.cons (by simp only [lg0, lg1, lg2]; rfl) (fun K hK => ?_) AllReadyH.nil
    go_simp
    (go_at_call 35; refine (vFixAt r L 19 8 _ H58.out.rd (by decide)).mono ?_)
    rintro q u59 ⟨rfl, h1, f1⟩
    have H59 := Lib.hid (H58.out.call Hd.out h1 f1)
    have HE59 := Lib.hid (HE58.out.fr f1 (Hd.out.ne HG53.out))
    have n59 := H59.out.num
    clear h1 f1
    refine hK.out _ _ n59 (fun hH59 => ?_)
    clear hK K
    try simp only [Act.put, lt0', lt1', lt2']
    refine wpAnyH_ready (rs := [13]) (by kernel_rfl) (by simp) ?_
    refine AllReadyH.cons (by simp only [lg0, lg1, lg2]; rfl) (fun K hK => ?_) AllReadyH.nil
    go_simp
    (go_at_call 35; refine (vFixAt r L 27 8 _ H59.out.rd (by decide)).mono ?_)
    rintro q u60 ⟨rfl, h1, f1⟩
    have H60 := Lib.hid (H59.out.call Hd.out h1 f1)
    have HE60 := Lib.hid (HE59.out.fr f1 (Hd.out.ne HG53.out))
    have n60 := H60.out.num
    clear h1 f1
    refine hK.out _ _ n60 (fun hH60 => ?_)
    clear hK K
    try simp only [Act.put, lt0', lt1', lt2']
    refine wpAnyH_ready (rs := [15]) (by kernel_rfl) (by simp) ?_
    refine AllReadyH.cons (by simp only [lg0, lg1, lg2]; rfl) (fun K hK => ?_) AllReadyH.nil
    go_simp
    (go_at_call 35; refine (vFixAt r L 35 8 _ H60.out.rd (by decide)).mono ?_)
    rintro q u61 ⟨rfl, h1, f1⟩
    have H61 := Lib.hid (H60.out.call Hd.out h1 f1)
    have HE61 := Lib.hid (HE60.out.fr f1 (Hd.out.ne HG53.out))
    have n61 := H61.out.num
    clear h1 f1
    refine hK.out _ _ n61 (fun hH61 => ?_)
    clear hK K
    try simp only [Act.put, lt0', lt1', lt2']
    refine tk 16 ?_
    simp only [Act.put, lt0', lt1', lt2']
    refine wpAnyH_ready (rs := [18]) (by kernel_rfl) (by simp) ?_
    refine AllReadyH.cons (by simp only [lg0, lg1, lg2]; rfl) (fun K hK => ?_) AllReadyH.nil
    go_simp
    refine stM HE61.out HG53.out H61.out Hd.out ?_
    intro q0 q1 q2 q3 q4 q5 q6 q7 q8 q9 q10 z0 z1 z2 z3 z4 z5 z6 z7 z8 z9 z10 HY HW HZ
    go_simp
    refine hK.out _ _ HZ.out (fun hH62 => ?_)
    clear hK K
    refine wpAnyH_done (by kernel_rfl) ?_ _
    clear q0 z0 q1 z1 q2 z2 q3 z3 q4 z4 q5 z5 q6 z6 q7 z7 q8 z8 q9 z9 q10 z10
    go_wp2_with fail
    go_meet
    exact ⟨b53, rfl, HY.out, HG53.out, HW.out.bk, HW.out.rd, HW.out.nm, HW.out.fr⟩
  case rest =>
    obtain ⟨bm, rfl, HE0, HG, HBa, HRa, HNa, HFa⟩ := hcut
    clear HR0 HB0 HN0 HF0 Hsz n0
    have HEa := Lib.hid HE0.out
    clear HE0
    go_wp2_with fail
    refine (gSmallM c r L 43 _ HNa.out HRa.out).mono ?_
    rintro q v1 ⟨rfl, h1, f1⟩
    have HRv1 : Hid (RdAt v1 r L (44)) := h1
    have HEv1 := Lib.hid (HEa.out.fr f1 (by have := Hlt.out; have := HG.out; simp; omega))
    have HBv1 := Lib.hid (HBa.out.fr f1 (by have := Hlt.out; simp; omega))
    have HNv1 := Lib.hid (HNa.out.frS f1 (by have := HEa.out.lt; have := HG.out; omega) (by have := Hlt.out; simp; omega))
    have HFv1 := Lib.hid (HFa.out.trans1 f1)
    clear h1 f1 HEa HBa HNa HFa HRa
    obtain ⟨yb, hyb⟩ : ∃ yb, (numF L 43 1 == 1) = yb := ⟨_, rfl⟩
    have hyb2 : decide (numF L 43 1 = 1) = yb := by rw [← hyb]; rfl
    have e8 : v1.cell? ⟨bm, 8, none⟩ = some (.bool false) := HEv1.out.cellAt (i := 8) rfl
    have z8 := HEv1.out.froz 8
    have HX8 : Hid (Fr [bm] v1 (v1.setCell ⟨bm, 8, none⟩ (.bool yb))) := (Fr.refl [bm] v1).setCell (.inl (by simp)) _
    have HEb : Hid (Blk (v1.setCell ⟨bm, 8, none⟩ (.bool yb)) bm #[.int .i64 (numF L 0 1), .int .i64 (numF L 1 1), .int .i64 (numF L 2 1), .int .u64 (numF L 3 8), .int .u64 (numF L 11 8), .int .u64 (numF L 19 8), .int .u64 (numF L 27 8), .int .u64 (numF L 35 8), .bool yb, .slice none 0 0, .string ⟨#[]⟩] 47) := HEv1.out.set 8 (.bool yb)
    have HRb := Lib.hid (HRv1.out.fr HX8.out (by have := Hlt.out; have := HG.out; simp; omega))
    have HBb := Lib.hid (HBv1.out.fr HX8.out (by have := Hlt.out; have := HG.out; simp; omega))
    have HNb := Lib.hid (HNv1.out.frS HX8.out (by have := HEv1.out.lt; have := HG.out; omega) (by have := HG.out; simp; omega))
    have HFb := Lib.hid (HFv1.out.trans HX8.out (fun x hx => by simp at hx; subst hx; right; have := Hw.out; have := Hlt.out; have := HG.out; omega))
    clear HEv1 HRv1 HBv1 HNv1 HFv1 HX8
    go_wp2_with fail
    have Hyb := Lib.hid hyb
    clear hyb hyb2 e8 z8
    generalize v1.setCell ⟨bm, 8, none⟩ (.bool yb) = vb at *
    refine (gSmallM c r L 44 _ HNb.out HRb.out).mono ?_
    rintro q v2 ⟨rfl, h1, f1⟩
    have HRv2 : Hid (RdAt v2 r L (45)) := h1
    have HEv2 := Lib.hid (HEb.out.fr f1 (by have := Hlt.out; have := HG.out; simp; omega))
    have HBv2 := Lib.hid (HBb.out.fr f1 (by have := Hlt.out; simp; omega))
    have HNv2 := Lib.hid (HNb.out.frS f1 (by have := HEb.out.lt; have := HG.out; omega) (by have := Hlt.out; simp; omega))
    have HFv2 := Lib.hid (HFb.out.trans1 f1)
    clear h1 f1 HEb HBb HNb HFb HRb
    obtain ⟨nn, hnn⟩ : ∃ nn : Nat, numF L 44 1 = (nn : Int) := ⟨(numF L 44 1).toNat, by have := numF_byte L 44; omega⟩
    have hn256 : nn < 256 := by have := numF_byte L 44; omega
    rw [hnn]
    have Hnn := Lib.hid hnn
    clear hnn
    have HvS : Hid (v2.heap.size = v2.heap.size) := rfl
    go_upto_block 0 with fail
    go_cut [38] from 38 to 50 (fun _ wx => ∃ (p : Nat) (acc : List Ent) (v : Value), Hid (entsN L = (acc, p)) ∧ Hid (Blk wx bm #[.int .i64 (numF L 0 1), .int .i64 (numF L 1 1), .int .i64 (numF L 2 1), .int .u64 (numF L 3 8), .int .u64 (numF L 11 8), .int .u64 (numF L 19 8), .int .u64 (numF L 27 8), .int .u64 (numF L 35 8), .bool yb, v, .string ⟨#[]⟩] 47) ∧ Hid (wx.ownsRow 0 24 11 v acc.length (flatE acc)) ∧ Hid (∀ x, x ∈ v.ownBlock.toList → bm < x) ∧ Hid (RdAt wx r L p) ∧ Hid (NumV wx c r) ∧ Hid (Fr [r] w wx) ∧ Hid (Blk wx bo #[.int .i64 0, .int .i64 0, .int .i64 0, .int .u64 0, .int .u64 0, .int .u64 0, .int .u64 0, .int .u64 0, .bool false, .slice none 0 0, .string ⟨#[]⟩] 47))
    case first =>
      have Hbw : Hid (w.heap.size ≤ bm) := by have := Hw.out; have := Hlt.out; have := HG.out; show _ ≤ _; omega
      go_wp2_with fail
      go_loopw [38] (fun i wr => ∃ (k p : Nat) (acc : List Ent) (v : Value), k ≤ nn ∧ i = .int .i64 k ∧ Hid (acc.length = k ∧ getN L nn 45 = (acc ++ (getN L (nn - k) p).1, (getN L (nn - k) p).2)) ∧ Hid (Blk wr bm #[.int .i64 (numF L 0 1), .int .i64 (numF L 1 1), .int .i64 (numF L 2 1), .int .u64 (numF L 3 8), .int .u64 (numF L 11 8), .int .u64 (numF L 19 8), .int .u64 (numF L 27 8), .int .u64 (numF L 35 8), .bool yb, v, .string ⟨#[]⟩] 47) ∧ Hid (wr.ownsRow 0 24 11 v k (flatE acc)) ∧ Hid (∀ x, x ∈ v.ownBlock.toList → bm < x) ∧ Hid (RdAt wr r L p) ∧ Hid (NumV wr c r) ∧ Hid (Fr [r] w wr) ∧ Hid (Blk wr bo #[.int .i64 0, .int .i64 0, .int .i64 0, .int .u64 0, .int .u64 0, .int .u64 0, .int .u64 0, .int .u64 0, .bool false, .slice none 0 0, .string ⟨#[]⟩] 47)) (fun i _ => nn - (intOf i).toNat)
      case atStart => exact ⟨0, 45, [], .slice none 0 0, by omega, rfl, ⟨rfl, by simp⟩, HEv2.out, World.ownsRow_nil _ 0 24 11, by show ∀ x, x ∈ (Value.slice none 0 0).ownBlock.toList → _; simp [Value.ownBlock], HRv2.out, HNv2.out, HFv2.out, HBv2.out⟩
      case round =>
        obtain ⟨k, p, acc, v, hk, rfl, RI, RB, RO, RX, RP, RN, RF, RZ⟩ := hrel
        obtain ⟨av, cv, rfl⟩ := own_slice RO.out
        by_cases hlt : k < nn
        · by_cases hp : p ≤ L.length
          · obtain ⟨M, hM⟩ : ∃ M, (get5 L p).1 = M := ⟨_, rfl⟩
            obtain ⟨P', hP'⟩ : ∃ P', (get5 L p).2 = P' := ⟨_, rfl⟩
            have HGet := Lib.hid (fun w (h : RdAt w r L p) => pGet r L p w h)
            have hI2 := getN_next hlt hp RI.out.2
            rw [hM, hP'] at HGet hI2
            have HI2 := Lib.hid hI2
            unfold Ent.cells at HGet
            clear hM hP' hI2
            have hok : decide (p ≤ L.length) = true := decide_eq_true hp
            have HOk := Lib.hid (fun w (h : RdAt w r L p) => vOKAt r L p w h)
            rw [hok] at HOk
            clear hok hp
            go_wp2_with fail
            refine (HOk.out _ RP.out).mono ?_
            rintro q wq ⟨rfl, rfl⟩
            have c9 : wr.cell? ⟨bm, 9, none⟩ = some (.slice av k cv) := RB.out.cellAt (i := 9) rfl
            have c9d : wr.drew.cell? ⟨bm, 9, none⟩ = some (.slice av k cv) := c9
            have hbn : Hid (bm ∉ (Value.slice av k cv).ownBlock.toList) := fun hx => by have := RX.out bm hx; omega
            have hrn : Hid (r ∉ (Value.slice av k cv).ownBlock.toList) := fun hx => by have := RX.out r hx; have := Hlt.out; have := HG.out; omega
            have hcn : Hid (c ∉ (Value.slice av k cv).ownBlock.toList) := fun hx => by have := RX.out c hx; have := HG.out; omega
            have hon : Hid (bo ∉ (Value.slice av k cv).ownBlock.toList) := fun hx => by have := RX.out bo hx; have := Hlt.out; have := HG.out; omega
            have hmr : Hid (bm ≠ r ∧ bm ≠ c ∧ bm ≠ bo ∧ r ≠ c ∧ r ≠ bo) := by have := Hlt.out; have := HG.out; exact ⟨by omega, by omega, by omega, by omega, by omega⟩
            have hcz : Hid (c < wr.heap.size) := by have := RB.out.lt; have := HG.out; show _ < _; omega
            go_wp2_with fail
            refine wp_region_any (by kernel_rfl) ?_
            try (change wpAny _ _ _ _ _ _ _ (World.drew _))
            refine wpAny_take (i := 0) (v := ?_) rfl (by kernel_rfl) (by kernel_rfl) (by kernel_rfl) (fun _ _ _ h => h) (Or.inl ⟨by rfl, ?_⟩) ?_
            rotate_left 1
            · (intro w; go_simp; first | done | with_reducible rfl)
            refine wpAny_take (i := 2) (v := ?_) rfl (by kernel_rfl) (by kernel_rfl) (by kernel_rfl) (fun _ _ _ h => h) (Or.inl ⟨by rfl, ?_⟩) ?_
            rotate_left 1
            · (intro w; go_simp; first | done | with_reducible rfl)
            refine wpAny_ready (rs := [1, 3]) (by kernel_rfl) (by simp) ?_
            refine AllReady.cons rfl (fun K hK => ?_) ?_
            ·
              go_simp
              refine hK _ _ ?_
              clear hK K
              refine wpAny_ready (rs := [3]) (by kernel_rfl) (by simp) ?_
              refine AllReady.cons rfl (fun K hK => ?_) ?_
              ·
                go_simp
                (go_at_call 14; refine (HGet.out _ (show RdAt wr.drew r L p from RP.out)).mono ?_; rintro r' w5 ⟨rfl, h5, f5⟩)
                have P5 := Lib.hid h5
                have B5 := Lib.hid ((show Blk wr.drew bm _ _ from RB.out).fr f5 (by have := hmr.out; simp; omega))
                have O5 := Lib.hid (ownsRow_fr (show wr.drew.ownsRow _ _ _ _ _ _ from RO.out) f5 (fun x hx e => by simp at e; subst e; exact hrn.out hx))
                have N5 := Lib.hid ((show NumV wr.drew c r from RN.out).frS f5 hcz.out (by have := hmr.out; simp; omega))
                have Z5 := Lib.hid ((show Blk wr.drew bo _ _ from RZ.out).fr f5 (by have := hmr.out; simp; omega))
                have F5 := Lib.hid ((RF.out.drew).trans1 f5)
                have c95 : w5.cell? ⟨bm, 9, none⟩ = some (.slice av k cv) := B5.out.cellAt (i := 9) rfl
                have c95' := ca B5.out 9
                clear h5 f5
                refine hK _ _ ?_
                clear hK K
                refine wpAny_ready (rs := [4]) (by kernel_rfl) (by simp) ?_
                refine AllReady.cons rfl (fun K hK => ?_) ?_
                ·
                  go_simp
                  refine hK _ _ ?_
                  clear hK K
                  refine wpAny_ready (rs := [5]) (by kernel_rfl) (by simp) ?_
                  refine AllReady.cons rfl (fun K hK => ?_) ?_
                  ·
                    (refine step_app_own rfl (.tmp 44) (.tmp 47) 45 rfl entT (.slice av k cv) k (flatE acc) (by simp [Act.eval]) (World.ownsRow.alloc O5.out _) ⟨w5.heap.size, 0, none⟩ 1 1 M.cells.toList (by simp [Act.eval]) rfl (fun j u hu => entNew w5 _ M j u hu) (entOne M) (by simp [maxLen]; omega) (by omega) ?_; intro v6 w6 H1 H2 H3; (obtain ⟨a6, c6, rfl⟩ := own_slice H1.out))
                    have B6 := Lib.hid ((B5.out.alloc (.cells M.cells 24)).fr H2.out hbn.out)
                    have c96 : w6.cell? ⟨bm, 9, none⟩ = some (.slice av k cv) := B6.out.cellAt (i := 9) rfl
                    have z96 := B6.out.froz 9
                    refine hK _ _ ?_
                    clear hK K
                    refine wpAny_take (i := 6) (v := ?_) rfl (by kernel_rfl) (by kernel_rfl) (by kernel_rfl) (fun _ _ _ h => h) (Or.inl ⟨by rfl, ?_⟩) ?_
                    rotate_left 1
                    · (intro w; go_simp; first | done | with_reducible rfl)
                    refine wpAny_ready (rs := [7]) (by kernel_rfl) (by simp) ?_
                    refine AllReady.cons rfl (fun K hK => ?_) ?_
                    ·
                      go_simp
                      refine hK _ _ ?_
                      clear hK K
                      refine wpAny_done (by kernel_rfl) ?_ _
                      have HST := Lib.hid (getStep (fun a => #[.int .i64 (numF L 0 1), .int .i64 (numF L 1 1), .int .i64 (numF L 2 1), .int .u64 (numF L 3 8), .int .u64 (numF L 11 8), .int .u64 (numF L 19 8), .int .u64 (numF L 27 8), .int .u64 (numF L 35 8), .bool yb, a, .string ⟨#[]⟩]) (fun a b => by simp only [lt0', lt1', lt2']) B5.out F5.out Hbw.out RX.out (by have h := H1.out; rwa [flatE_one] at h) H2.out H3.out)
                      have Hx6 := Lib.hid ((Fr.refl [bm] w6).setCell (p := ⟨bm, 9, none⟩) (.inl (by simp)) (.slice a6 (k + 1) c6))
                      have P6 := Lib.hid ((((P5.out.alloc (.cells M.cells 24)).fr H2.out hrn.out)).fr Hx6.out (by have := hmr.out; simp; omega))
                      have Z6 := Lib.hid ((((Z5.out.alloc (.cells M.cells 24)).fr H2.out hon.out)).fr Hx6.out (by have := hmr.out; simp; omega))
                      have N6 := Lib.hid (((N5.out.frS ((Fr.refl [] w5).alloc (.cells M.cells 24)) (by have := B5.out.lt; have := HG.out; omega) (by simp)).frS H2.out (by have := B5.out.lt; have := HG.out; simp; omega) hcn.out).frS Hx6.out (by have := B6.out.lt; have := HG.out; omega) (by have := hmr.out; simp; omega))
                      have HL6 : Hid ((acc ++ [M]).length = k + 1) := by show _ = _; rw [List.length_append, RI.out.1]; rfl
                      go_wp2_with fail
                      go_roundw
                      case rel => first | exact ⟨k + 1, P', acc ++ [M], _, by omega, by go_num, ⟨HL6.out, HI2.out⟩, HST.out.1, HST.out.2.1, HST.out.2.2.2, P6.out, N6.out, HST.out.2.2.1, Z6.out⟩ | ((repeat apply Exists.intro); exact ⟨⟨k + 1, P', acc ++ [M], _, by omega, by go_num, ⟨HL6.out, HI2.out⟩, HST.out.1, HST.out.2.1, HST.out.2.2.2, P6.out, N6.out, HST.out.2.2.1, Z6.out⟩, rfl⟩)
                      case measure => simp [intOf]; omega
                    exact AllReady.nil
                  exact AllReady.nil
                exact AllReady.nil
              exact AllReady.nil
            refine AllReady.cons rfl (fun K hK => ?_) ?_
            ·
              go_simp
              (go_at_call 14; refine (HGet.out _ (show RdAt wr.drew r L p from RP.out)).mono ?_; rintro r' w5 ⟨rfl, h5, f5⟩)
              have P5 := Lib.hid h5
              have B5 := Lib.hid ((show Blk wr.drew bm _ _ from RB.out).fr f5 (by have := hmr.out; simp; omega))
              have O5 := Lib.hid (ownsRow_fr (show wr.drew.ownsRow _ _ _ _ _ _ from RO.out) f5 (fun x hx e => by simp at e; subst e; exact hrn.out hx))
              have N5 := Lib.hid ((show NumV wr.drew c r from RN.out).frS f5 hcz.out (by have := hmr.out; simp; omega))
              have Z5 := Lib.hid ((show Blk wr.drew bo _ _ from RZ.out).fr f5 (by have := hmr.out; simp; omega))
              have F5 := Lib.hid ((RF.out.drew).trans1 f5)
              have c95 : w5.cell? ⟨bm, 9, none⟩ = some (.slice av k cv) := B5.out.cellAt (i := 9) rfl
              have c95' := ca B5.out 9
              clear h5 f5
              refine hK _ _ ?_
              clear hK K
              refine wpAny_ready (rs := [1, 4]) (by kernel_rfl) (by simp) ?_
              refine AllReady.cons rfl (fun K hK => ?_) ?_
              ·
                go_simp
                refine hK _ _ ?_
                clear hK K
                refine wpAny_ready (rs := [4]) (by kernel_rfl) (by simp) ?_
                refine AllReady.cons rfl (fun K hK => ?_) ?_
                ·
                  go_simp
                  refine hK _ _ ?_
                  clear hK K
                  refine wpAny_ready (rs := [5]) (by kernel_rfl) (by simp) ?_
                  refine AllReady.cons rfl (fun K hK => ?_) ?_
                  ·
                    (refine step_app_own rfl (.tmp 44) (.tmp 47) 45 rfl entT (.slice av k cv) k (flatE acc) (by simp [Act.eval]) (World.ownsRow.alloc O5.out _) ⟨w5.heap.size, 0, none⟩ 1 1 M.cells.toList (by simp [Act.eval]) rfl (fun j u hu => entNew w5 _ M j u hu) (entOne M) (by simp [maxLen]; omega) (by omega) ?_; intro v6 w6 H1 H2 H3; (obtain ⟨a6, c6, rfl⟩ := own_slice H1.out))
                    have B6 := Lib.hid ((B5.out.alloc (.cells M.cells 24)).fr H2.out hbn.out)
                    have c96 : w6.cell? ⟨bm, 9, none⟩ = some (.slice av k cv) := B6.out.cellAt (i := 9) rfl
                    have z96 := B6.out.froz 9
                    refine hK _ _ ?_
                    clear hK K
                    refine wpAny_take (i := 6) (v := ?_) rfl (by kernel_rfl) (by kernel_rfl) (by kernel_rfl) (fun _ _ _ h => h) (Or.inl ⟨by rfl, ?_⟩) ?_
                    rotate_left 1
                    · (intro w; go_simp; first | done | with_reducible rfl)
                    refine wpAny_ready (rs := [7]) (by kernel_rfl) (by simp) ?_
                    refine AllReady.cons rfl (fun K hK => ?_) ?_
                    ·
                      go_simp
                      refine hK _ _ ?_
                      clear hK K
                      refine wpAny_done (by kernel_rfl) ?_ _
                      have HST := Lib.hid (getStep (fun a => #[.int .i64 (numF L 0 1), .int .i64 (numF L 1 1), .int .i64 (numF L 2 1), .int .u64 (numF L 3 8), .int .u64 (numF L 11 8), .int .u64 (numF L 19 8), .int .u64 (numF L 27 8), .int .u64 (numF L 35 8), .bool yb, a, .string ⟨#[]⟩]) (fun a b => by simp only [lt0', lt1', lt2']) B5.out F5.out Hbw.out RX.out (by have h := H1.out; rwa [flatE_one] at h) H2.out H3.out)
                      have Hx6 := Lib.hid ((Fr.refl [bm] w6).setCell (p := ⟨bm, 9, none⟩) (.inl (by simp)) (.slice a6 (k + 1) c6))
                      have P6 := Lib.hid ((((P5.out.alloc (.cells M.cells 24)).fr H2.out hrn.out)).fr Hx6.out (by have := hmr.out; simp; omega))
                      have Z6 := Lib.hid ((((Z5.out.alloc (.cells M.cells 24)).fr H2.out hon.out)).fr Hx6.out (by have := hmr.out; simp; omega))
                      have N6 := Lib.hid (((N5.out.frS ((Fr.refl [] w5).alloc (.cells M.cells 24)) (by have := B5.out.lt; have := HG.out; omega) (by simp)).frS H2.out (by have := B5.out.lt; have := HG.out; simp; omega) hcn.out).frS Hx6.out (by have := B6.out.lt; have := HG.out; omega) (by have := hmr.out; simp; omega))
                      have HL6 : Hid ((acc ++ [M]).length = k + 1) := by show _ = _; rw [List.length_append, RI.out.1]; rfl
                      go_wp2_with fail
                      go_roundw
                      case rel => first | exact ⟨k + 1, P', acc ++ [M], _, by omega, by go_num, ⟨HL6.out, HI2.out⟩, HST.out.1, HST.out.2.1, HST.out.2.2.2, P6.out, N6.out, HST.out.2.2.1, Z6.out⟩ | ((repeat apply Exists.intro); exact ⟨⟨k + 1, P', acc ++ [M], _, by omega, by go_num, ⟨HL6.out, HI2.out⟩, HST.out.1, HST.out.2.1, HST.out.2.2.2, P6.out, N6.out, HST.out.2.2.1, Z6.out⟩, rfl⟩)
                      case measure => simp [intOf]; omega
                    exact AllReady.nil
                  exact AllReady.nil
                exact AllReady.nil
              refine AllReady.cons rfl (fun K hK => ?_) ?_
              ·
                go_simp
                refine hK _ _ ?_
                clear hK K
                refine wpAny_ready (rs := [1]) (by kernel_rfl) (by simp) ?_
                refine AllReady.cons rfl (fun K hK => ?_) ?_
                ·
                  go_simp
                  refine hK _ _ ?_
                  clear hK K
                  refine wpAny_ready (rs := [5]) (by kernel_rfl) (by simp) ?_
                  refine AllReady.cons rfl (fun K hK => ?_) ?_
                  ·
                    (refine step_app_own rfl (.tmp 44) (.tmp 47) 45 rfl entT (.slice av k cv) k (flatE acc) (by simp [Act.eval]) (World.ownsRow.alloc O5.out _) ⟨w5.heap.size, 0, none⟩ 1 1 M.cells.toList (by simp [Act.eval]) rfl (fun j u hu => entNew w5 _ M j u hu) (entOne M) (by simp [maxLen]; omega) (by omega) ?_; intro v6 w6 H1 H2 H3; (obtain ⟨a6, c6, rfl⟩ := own_slice H1.out))
                    have B6 := Lib.hid ((B5.out.alloc (.cells M.cells 24)).fr H2.out hbn.out)
                    have c96 : w6.cell? ⟨bm, 9, none⟩ = some (.slice av k cv) := B6.out.cellAt (i := 9) rfl
                    have z96 := B6.out.froz 9
                    refine hK _ _ ?_
                    clear hK K
                    refine wpAny_take (i := 6) (v := ?_) rfl (by kernel_rfl) (by kernel_rfl) (by kernel_rfl) (fun _ _ _ h => h) (Or.inl ⟨by rfl, ?_⟩) ?_
                    rotate_left 1
                    · (intro w; go_simp; first | done | with_reducible rfl)
                    refine wpAny_ready (rs := [7]) (by kernel_rfl) (by simp) ?_
                    refine AllReady.cons rfl (fun K hK => ?_) ?_
                    ·
                      go_simp
                      refine hK _ _ ?_
                      clear hK K
                      refine wpAny_done (by kernel_rfl) ?_ _
                      have HST := Lib.hid (getStep (fun a => #[.int .i64 (numF L 0 1), .int .i64 (numF L 1 1), .int .i64 (numF L 2 1), .int .u64 (numF L 3 8), .int .u64 (numF L 11 8), .int .u64 (numF L 19 8), .int .u64 (numF L 27 8), .int .u64 (numF L 35 8), .bool yb, a, .string ⟨#[]⟩]) (fun a b => by simp only [lt0', lt1', lt2']) B5.out F5.out Hbw.out RX.out (by have h := H1.out; rwa [flatE_one] at h) H2.out H3.out)
                      have Hx6 := Lib.hid ((Fr.refl [bm] w6).setCell (p := ⟨bm, 9, none⟩) (.inl (by simp)) (.slice a6 (k + 1) c6))
                      have P6 := Lib.hid ((((P5.out.alloc (.cells M.cells 24)).fr H2.out hrn.out)).fr Hx6.out (by have := hmr.out; simp; omega))
                      have Z6 := Lib.hid ((((Z5.out.alloc (.cells M.cells 24)).fr H2.out hon.out)).fr Hx6.out (by have := hmr.out; simp; omega))
                      have N6 := Lib.hid (((N5.out.frS ((Fr.refl [] w5).alloc (.cells M.cells 24)) (by have := B5.out.lt; have := HG.out; omega) (by simp)).frS H2.out (by have := B5.out.lt; have := HG.out; simp; omega) hcn.out).frS Hx6.out (by have := B6.out.lt; have := HG.out; omega) (by have := hmr.out; simp; omega))
                      have HL6 : Hid ((acc ++ [M]).length = k + 1) := by show _ = _; rw [List.length_append, RI.out.1]; rfl
                      go_wp2_with fail
                      go_roundw
                      case rel => first | exact ⟨k + 1, P', acc ++ [M], _, by omega, by go_num, ⟨HL6.out, HI2.out⟩, HST.out.1, HST.out.2.1, HST.out.2.2.2, P6.out, N6.out, HST.out.2.2.1, Z6.out⟩ | ((repeat apply Exists.intro); exact ⟨⟨k + 1, P', acc ++ [M], _, by omega, by go_num, ⟨HL6.out, HI2.out⟩, HST.out.1, HST.out.2.1, HST.out.2.2.2, P6.out, N6.out, HST.out.2.2.1, Z6.out⟩, rfl⟩)
                      case measure => simp [intOf]; omega
                    exact AllReady.nil
                  exact AllReady.nil
                exact AllReady.nil
              exact AllReady.nil
            exact AllReady.nil
          · have hok : decide (p ≤ L.length) = false := decide_eq_false hp
            have HOk := Lib.hid (fun w (h : RdAt w r L p) => vOKAt r L p w h)
            rw [hok] at HOk
            have HSt : Hid (entsN L = (acc, p)) := by show _ = _; unfold entsN; rw [Hnn.out, Int.toNat_natCast]; exact getN_stop (.inr (by omega)) RI.out.2
            clear hok
            go_wp2_with fail
            refine (HOk.out _ RP.out).mono ?_
            rintro q wq ⟨rfl, rfl⟩
            go_wp2_with fail
            go_meet
            case rel => exact ⟨p, acc, _, HSt.out, RB.out, by rw [RI.out.1]; exact RO.out, RX.out, RP.out, RN.out, RF.out, RZ.out⟩
        · have HSt : Hid (entsN L = (acc, p)) := by show _ = _; unfold entsN; rw [Hnn.out, Int.toNat_natCast]; exact getN_stop (.inl (by omega)) RI.out.2
          go_wp2_with fail
          go_meet
          case rel => exact ⟨p, acc, _, HSt.out, RB.out, by rw [RI.out.1]; exact RO.out, RX.out, RP.out, RN.out, RF.out, RZ.out⟩
    case rest =>
      obtain ⟨p, acc, v, HSt, HEc, HOc, HXc, HRc, HNc, HFc, HBc⟩ := hcut
      clear HEv2 HRv2 HNv2 HFv2 HBv2 HvS
      generalize hg0 : numF L 0 1 = g0 at *
      have Hg0 := Lib.hid hg0
      clear hg0
      generalize hg1 : numF L 1 1 = g1 at *
      have Hg1 := Lib.hid hg1
      clear hg1
      generalize hg2 : numF L 2 1 = g2 at *
      have Hg2 := Lib.hid hg2
      clear hg2
      generalize hg3 : numF L 3 8 = g3 at *
      have Hg3 := Lib.hid hg3
      clear hg3
      generalize hg4 : numF L 11 8 = g4 at *
      have Hg4 := Lib.hid hg4
      clear hg4
      generalize hg5 : numF L 19 8 = g5 at *
      have Hg5 := Lib.hid hg5
      clear hg5
      generalize hg6 : numF L 27 8 = g6 at *
      have Hg6 := Lib.hid hg6
      clear hg6
      generalize hg7 : numF L 35 8 = g7 at *
      have Hg7 := Lib.hid hg7
      clear hg7
      generalize hg8 : numF L 43 1 = g8 at *
      have Hg8 := Lib.hid hg8
      clear hg8
      obtain ⟨av, cv, rfl⟩ := own_slice HOc.out
      generalize hnl : acc.length = nl at *
      have Hnl := Lib.hid hnl
      clear hnl
      obtain ⟨sk, hsk⟩ : ∃ sk : Nat, numF L p 4 = (sk : Int) := ⟨(numF L p 4).toNat, by have := numF_four L p; omega⟩
      have hsk32 : (sk : Int) < 4294967296 := by have := numF_four L p; omega
      have ksk : IntKind.i64.wrap (sk : Int) = (sk : Int) := IntWalk.i64_in _ (by omega)
      have Hsk := Lib.hid hsk
      have HFx := Lib.hid (fun w (h : RdAt w r L p) => vFixAt r L p 4 w h (by decide))
      rw [hsk] at HFx
      clear hsk
      have n0 : wc.cell? ⟨c, 0, none⟩ = some (.func (.func 35) #[.pointer (some ⟨r, 0, none⟩)] #[]) := HNc.out
      go_wp2_with fail
      refine (HFx.out _ HRc.out).mono ?_
      rintro q v3 ⟨rfl, h1, f1⟩
      have HRd : Hid (RdAt v3 r L (p + 4)) := h1
      have HEd := Lib.hid (HEc.out.fr f1 (by have := Hlt.out; have := HG.out; simp; omega))
      have HBd := Lib.hid (HBc.out.fr f1 (by have := Hlt.out; simp; omega))
      have HFd := Lib.hid (HFc.out.trans1 f1)
      have HOd := Lib.hid (ownsRow_fr HOc.out f1 (fun x hx e => by simp at e; subst e; have := HXc.out _ hx; have := Hlt.out; have := HG.out; omega))
      clear h1 f1 HRc HEc HBc HFc HNc HOc n0 HFx
      go_wp2_with fail
      refine (vBytesAt r L (p + 4) sk _ HRd.out).mono ?_
      rintro q v4 ⟨rfl, h1, f1⟩
      have HRe : Hid (RdAt v4 r L (p + 4 + sk)) := h1
      have HEe := Lib.hid (HEd.out.fr f1 (by have := Hlt.out; have := HG.out; simp; omega))
      have HBe := Lib.hid (HBd.out.fr f1 (by have := Hlt.out; simp; omega))
      have HFe := Lib.hid (HFd.out.trans1 f1)
      have HOe := Lib.hid (ownsRow_fr HOd.out f1 (fun x hx e => by simp at e; subst e; have := HXc.out _ hx; have := Hlt.out; have := HG.out; omega))
      clear h1 f1 HRd HEd HBd HFd HOd
      obtain ⟨SN, hSN⟩ : ∃ SN, bs (strF L (p + 4) sk) = SN := ⟨_, rfl⟩
      rw [hSN]
      have HSN := Lib.hid hSN
      clear hSN
      have e10 : v4.cell? ⟨bm, 10, none⟩ = some (.string ⟨#[]⟩) := HEe.out.cellAt (i := 10) rfl
      have z10 := HEe.out.froz 10
      have HX8 : Hid (Fr [bm] v4 (v4.setCell ⟨bm, 10, none⟩ (.string SN))) := (Fr.refl [bm] v4).setCell (.inl (by simp)) _
      have HEf : Hid (Blk (v4.setCell ⟨bm, 10, none⟩ (.string SN)) bm #[.int .i64 g0, .int .i64 g1, .int .i64 g2, .int .u64 g3, .int .u64 g4, .int .u64 g5, .int .u64 g6, .int .u64 g7, .bool yb, .slice av nl cv, .string SN] 47) := HEe.out.set 10 (.string SN)
      have HRf := Lib.hid (HRe.out.fr HX8.out (by have := Hlt.out; have := HG.out; simp; omega))
      have HBf := Lib.hid (HBe.out.fr HX8.out (by have := Hlt.out; have := HG.out; simp; omega))
      have HFf := Lib.hid (HFe.out.trans HX8.out (fun x hx => by simp at hx; subst hx; right; have := Hw.out; have := Hlt.out; have := HG.out; omega))
      have HVf : Hid (Ents (v4.setCell ⟨bm, 10, none⟩ (.string SN)) (.slice av nl cv) acc) := own_ents (by rw [Hnl.out]; exact ownsRow_fr HOe.out HX8.out (fun x hx e => by simp at e; subst e; have := HXc.out _ hx; omega))
      have hmm : (⟨g0, g1, g2, g3, g4, g5, g6, g7, yb, acc, SN⟩ : Msg) = msg5 L := by
        unfold msg5 snapN snapO
        rw [HSt.out, ← HSN.out, ← Hyb.out, Hg0.out, Hg1.out, Hg2.out, Hg3.out, Hg4.out, Hg5.out, Hg6.out, Hg7.out, Hg8.out]
        simp only
        rw [Hsk.out, Int.toNat_natCast]
      have hend : endM L = p + 4 + sk := by
        unfold endM snapN snapO
        rw [HSt.out]
        simp only
        rw [Hsk.out, Int.toNat_natCast]
      have HMf : Hid (msg5 L).Fits := msg5_fits L HLen.out
      have HGo : Hid (goodM L = (decide (p + 4 + sk = L.length) && decide (g8 ≤ 1) && (msg5 L).ok && decide ((msg5 L).lvl ≤ 1))) := by show _ = _; unfold goodM; rw [hend, Hg8.out]
      obtain ⟨mm, hm5⟩ : ∃ mm, msg5 L = mm := ⟨_, rfl⟩
      rw [hm5] at hmm HMf HGo
      have hcm : mm.cells (.slice av nl cv) = #[.int .i64 g0, .int .i64 g1, .int .i64 g2, .int .u64 g3, .int .u64 g4, .int .u64 g5, .int .u64 g6, .int .u64 g7, .bool yb, .slice av nl cv, .string SN] := by rw [← hmm]; rfl
      have hme : mm.ents = acc := by rw [← hmm]
      have HRt := Lib.hid (fun w (h : Ents w (.slice av nl cv) acc) => eMsgRight mm _ w HMf.out (by rw [hme]; exact h))
      have HLv := Lib.hid (fun w (h : Ents w (.slice av nl cv) acc) => eMsgLevel mm _ w HMf.out (by rw [hme]; exact h))
      rw [hcm] at HRt HLv
      have Hcm := Lib.hid hcm
      have Hme := Lib.hid hme
      have Hm5 := Lib.hid hm5
      clear hmm hm5 hcm hme hend HEe HRe HBe HFe HOe HX8
      obtain ⟨En, hEn⟩ : ∃ En, p + 4 + sk = En := ⟨_, rfl⟩
      rw [hEn] at HRf HGo
      clear hEn
      go_wp2_with fail
      clear e10 z10
      generalize v4.setCell ⟨bm, 10, none⟩ (.string SN) = X0 at *
      have HOk := Lib.hid (fun w (h : RdAt w r L En) => vOKAt r L En w h)
      have HLf := Lib.hid (fun w (h : RdAt w r L En) => vLeftAt r L En w h)
      by_cases hle : En ≤ L.length
      · rw [decide_eq_true hle] at HOk
        refine (HOk.out _ HRf.out).mono ?_
        rintro q wq ⟨rfl, rfl⟩
        go_wp2_with fail
        refine (HLf.out _ HRf.out).mono ?_
        rintro q wq ⟨rfl, rfl⟩
        by_cases hlf : En = L.length
        · have hl0 : ((L.length - En : Nat) : Int) = 0 := by omega
          rw [hl0]
          by_cases hy1 : g8 ≤ 1
          · have hy1b : ¬ 1 < g8 := by omega
            have hy1c : decide (1 < g8) = false := decide_eq_false hy1b
            have c0 : X0.cell? ⟨bm, 0, none⟩ = some (.int .i64 g0) := HEf.out.cellAt (i := 0) rfl
            have c1 : X0.cell? ⟨bm, 1, none⟩ = some (.int .i64 g1) := HEf.out.cellAt (i := 1) rfl
            have c2 : X0.cell? ⟨bm, 2, none⟩ = some (.int .i64 g2) := HEf.out.cellAt (i := 2) rfl
            have c3 : X0.cell? ⟨bm, 3, none⟩ = some (.int .u64 g3) := HEf.out.cellAt (i := 3) rfl
            have c4 : X0.cell? ⟨bm, 4, none⟩ = some (.int .u64 g4) := HEf.out.cellAt (i := 4) rfl
            have c5 : X0.cell? ⟨bm, 5, none⟩ = some (.int .u64 g5) := HEf.out.cellAt (i := 5) rfl
            have c6 : X0.cell? ⟨bm, 6, none⟩ = some (.int .u64 g6) := HEf.out.cellAt (i := 6) rfl
            have c7 : X0.cell? ⟨bm, 7, none⟩ = some (.int .u64 g7) := HEf.out.cellAt (i := 7) rfl
            have c8 : X0.cell? ⟨bm, 8, none⟩ = some (.bool yb) := HEf.out.cellAt (i := 8) rfl
            have c9 : X0.cell? ⟨bm, 9, none⟩ = some (.slice av nl cv) := HEf.out.cellAt (i := 9) rfl
            have c10 : X0.cell? ⟨bm, 10, none⟩ = some (.string SN) := HEf.out.cellAt (i := 10) rfl
            go_wp2_with fail
            refine (HRt.out _ HVf.out).mono ?_
            rintro q X1 ⟨rfl, f1⟩
            have HEg := Lib.hid (HEf.out.fr0 f1)
            have HBg := Lib.hid (HBf.out.fr0 f1)
            have HFg := Lib.hid (HFf.out.trans0 f1)
            have HVg := Lib.hid (HVf.out.fr0 f1)
            clear f1 HEf HBf HFf HVf HRf c0 c1 c2 c3 c4 c5 c6 c7 c8 c9 c10
            rcases hok : mm.ok with _ | _
            · have HGt : Hid (gotM L = (msg0, false)) := gotM_no L (by rw [HGo.out, hok]; simp)
              have q0 : X1.cell? ⟨bo, 0, none⟩ = some (.int .i64 0) := HBg.out.cellAt (i := 0) rfl
              have z0 := HBg.out.froz 0
              have q1 : X1.cell? ⟨bo, 1, none⟩ = some (.int .i64 0) := HBg.out.cellAt (i := 1) rfl
              have z1 := HBg.out.froz 1
              have q2 : X1.cell? ⟨bo, 2, none⟩ = some (.int .i64 0) := HBg.out.cellAt (i := 2) rfl
              have z2 := HBg.out.froz 2
              have q3 : X1.cell? ⟨bo, 3, none⟩ = some (.int .u64 0) := HBg.out.cellAt (i := 3) rfl
              have z3 := HBg.out.froz 3
              have q4 : X1.cell? ⟨bo, 4, none⟩ = some (.int .u64 0) := HBg.out.cellAt (i := 4) rfl
              have z4 := HBg.out.froz 4
              have q5 : X1.cell? ⟨bo, 5, none⟩ = some (.int .u64 0) := HBg.out.cellAt (i := 5) rfl
              have z5 := HBg.out.froz 5
              have q6 : X1.cell? ⟨bo, 6, none⟩ = some (.int .u64 0) := HBg.out.cellAt (i := 6) rfl
              have z6 := HBg.out.froz 6
              have q7 : X1.cell? ⟨bo, 7, none⟩ = some (.int .u64 0) := HBg.out.cellAt (i := 7) rfl
              have z7 := HBg.out.froz 7
              have q8 : X1.cell? ⟨bo, 8, none⟩ = some (.bool false) := HBg.out.cellAt (i := 8) rfl
              have z8 := HBg.out.froz 8
              have q9 : X1.cell? ⟨bo, 9, none⟩ = some (.slice none 0 0) := HBg.out.cellAt (i := 9) rfl
              have z9 := HBg.out.froz 9
              have q10 : X1.cell? ⟨bo, 10, none⟩ = some (.string ⟨#[]⟩) := HBg.out.cellAt (i := 10) rfl
              have z10 := HBg.out.froz 10
              have HX : Hid (Fr [bo] X1 (((((((((((X1.setCell ⟨bo, 0, none⟩ (.int .i64 0)).setCell ⟨bo, 1, none⟩ (.int .i64 0)).setCell ⟨bo, 2, none⟩ (.int .i64 0)).setCell ⟨bo, 3, none⟩ (.int .u64 0)).setCell ⟨bo, 4, none⟩ (.int .u64 0)).setCell ⟨bo, 5, none⟩ (.int .u64 0)).setCell ⟨bo, 6, none⟩ (.int .u64 0)).setCell ⟨bo, 7, none⟩ (.int .u64 0)).setCell ⟨bo, 8, none⟩ (.bool false)).setCell ⟨bo, 9, none⟩ (.slice none 0 0)).setCell ⟨bo, 10, none⟩ (.string ⟨#[]⟩))) := set11_fr X1 bo (.int .i64 0) (.int .i64 0) (.int .i64 0) (.int .u64 0) (.int .u64 0) (.int .u64 0) (.int .u64 0) (.int .u64 0) (.bool false) (.slice none 0 0) (.string ⟨#[]⟩)
              have HY : Hid (Blk (((((((((((X1.setCell ⟨bo, 0, none⟩ (.int .i64 0)).setCell ⟨bo, 1, none⟩ (.int .i64 0)).setCell ⟨bo, 2, none⟩ (.int .i64 0)).setCell ⟨bo, 3, none⟩ (.int .u64 0)).setCell ⟨bo, 4, none⟩ (.int .u64 0)).setCell ⟨bo, 5, none⟩ (.int .u64 0)).setCell ⟨bo, 6, none⟩ (.int .u64 0)).setCell ⟨bo, 7, none⟩ (.int .u64 0)).setCell ⟨bo, 8, none⟩ (.bool false)).setCell ⟨bo, 9, none⟩ (.slice none 0 0)).setCell ⟨bo, 10, none⟩ (.string ⟨#[]⟩)) bo #[.int .i64 0, .int .i64 0, .int .i64 0, .int .u64 0, .int .u64 0, .int .u64 0, .int .u64 0, .int .u64 0, .bool false, .slice none 0 0, .string ⟨#[]⟩] 47) := HBg.out.put11 _ _ _ _ _ _ _ _ _ _ _
              go_wp2_with fail
              generalize (((((((((((X1.setCell ⟨bo, 0, none⟩ (.int .i64 0)).setCell ⟨bo, 1, none⟩ (.int .i64 0)).setCell ⟨bo, 2, none⟩ (.int .i64 0)).setCell ⟨bo, 3, none⟩ (.int .u64 0)).setCell ⟨bo, 4, none⟩ (.int .u64 0)).setCell ⟨bo, 5, none⟩ (.int .u64 0)).setCell ⟨bo, 6, none⟩ (.int .u64 0)).setCell ⟨bo, 7, none⟩ (.int .u64 0)).setCell ⟨bo, 8, none⟩ (.bool false)).setCell ⟨bo, 9, none⟩ (.slice none 0 0)).setCell ⟨bo, 10, none⟩ (.string ⟨#[]⟩)) = X at *
              have y0 : X.cell? ⟨bo, 0, none⟩ = some (.int .i64 0) := HY.out.cellAt (i := 0) rfl
              have y1 : X.cell? ⟨bo, 1, none⟩ = some (.int .i64 0) := HY.out.cellAt (i := 1) rfl
              have y2 : X.cell? ⟨bo, 2, none⟩ = some (.int .i64 0) := HY.out.cellAt (i := 2) rfl
              have y3 : X.cell? ⟨bo, 3, none⟩ = some (.int .u64 0) := HY.out.cellAt (i := 3) rfl
              have y4 : X.cell? ⟨bo, 4, none⟩ = some (.int .u64 0) := HY.out.cellAt (i := 4) rfl
              have y5 : X.cell? ⟨bo, 5, none⟩ = some (.int .u64 0) := HY.out.cellAt (i := 5) rfl
              have y6 : X.cell? ⟨bo, 6, none⟩ = some (.int .u64 0) := HY.out.cellAt (i := 6) rfl
              have y7 : X.cell? ⟨bo, 7, none⟩ = some (.int .u64 0) := HY.out.cellAt (i := 7) rfl
              have y8 : X.cell? ⟨bo, 8, none⟩ = some (.bool false) := HY.out.cellAt (i := 8) rfl
              have y9 : X.cell? ⟨bo, 9, none⟩ = some (.slice none 0 0) := HY.out.cellAt (i := 9) rfl
              have y10 : X.cell? ⟨bo, 10, none⟩ = some (.string ⟨#[]⟩) := HY.out.cellAt (i := 10) rfl
              clear q0 z0 q1 z1 q2 z2 q3 z3 q4 z4 q5 z5 q6 z6 q7 z7 q8 z8 q9 z9 q10 z10
              refine bodyPost_ret (v := .tuple #[.agg #[.int .i64 0, .int .i64 0, .int .i64 0, .int .u64 0, .int .u64 0, .int .u64 0, .int .u64 0, .int .u64 0, .bool false, .slice none 0 0, .string ⟨#[]⟩], .bool false]) (by simp [results, Tryd.results22, go_sem, y0, y1, y2, y3, y4, y5, y6, y7, y8, y9, y10]) rfl ?_
              rw [HGt.out]
              have HFz : Fr [] w X := (HFg.out.trans HX.out (fun x hx => by simp at hx; subst hx; right; have h9 := Hw.out; omega)).shed (fun x hx => by simp at hx; subst hx; have := Hlt.out; have := Hw.out; omega)
              exact ⟨noEnts, rfl, (.inl ⟨rfl, none, 0, rfl⟩), HFz⟩
            · have c0 : X1.cell? ⟨bm, 0, none⟩ = some (.int .i64 g0) := HEg.out.cellAt (i := 0) rfl
              have c1 : X1.cell? ⟨bm, 1, none⟩ = some (.int .i64 g1) := HEg.out.cellAt (i := 1) rfl
              have c2 : X1.cell? ⟨bm, 2, none⟩ = some (.int .i64 g2) := HEg.out.cellAt (i := 2) rfl
              have c3 : X1.cell? ⟨bm, 3, none⟩ = some (.int .u64 g3) := HEg.out.cellAt (i := 3) rfl
              have c4 : X1.cell? ⟨bm, 4, none⟩ = some (.int .u64 g4) := HEg.out.cellAt (i := 4) rfl
              have c5 : X1.cell? ⟨bm, 5, none⟩ = some (.int .u64 g5) := HEg.out.cellAt (i := 5) rfl
              have c6 : X1.cell? ⟨bm, 6, none⟩ = some (.int .u64 g6) := HEg.out.cellAt (i := 6) rfl
              have c7 : X1.cell? ⟨bm, 7, none⟩ = some (.int .u64 g7) := HEg.out.cellAt (i := 7) rfl
              have c8 : X1.cell? ⟨bm, 8, none⟩ = some (.bool yb) := HEg.out.cellAt (i := 8) rfl
              have c9 : X1.cell? ⟨bm, 9, none⟩ = some (.slice av nl cv) := HEg.out.cellAt (i := 9) rfl
              have c10 : X1.cell? ⟨bm, 10, none⟩ = some (.string SN) := HEg.out.cellAt (i := 10) rfl
              go_wp2_with fail
              refine (HLv.out _ HVg.out).mono ?_
              rintro q X2 ⟨rfl, f1⟩
              have HEh := Lib.hid (HEg.out.fr0 f1)
              have HBh := Lib.hid (HBg.out.fr0 f1)
              have HFh := Lib.hid (HFg.out.trans0 f1)
              have HVh := Lib.hid (HVg.out.fr0 f1)
              clear f1 HEg HBg HFg HVg c0 c1 c2 c3 c4 c5 c6 c7 c8 c9 c10
              rcases Msg.lvl_or mm with hl | hl
              · rw [hl]
                have HGt : Hid (gotM L = (mm, true)) := by show _ = _; rw [← Hm5.out]; exact gotM_yes L (by rw [HGo.out, hok, hl, decide_eq_true hlf, decide_eq_true hy1]; rfl)
                have c0 : X2.cell? ⟨bm, 0, none⟩ = some (.int .i64 g0) := HEh.out.cellAt (i := 0) rfl
                have c1 : X2.cell? ⟨bm, 1, none⟩ = some (.int .i64 g1) := HEh.out.cellAt (i := 1) rfl
                have c2 : X2.cell? ⟨bm, 2, none⟩ = some (.int .i64 g2) := HEh.out.cellAt (i := 2) rfl
                have c3 : X2.cell? ⟨bm, 3, none⟩ = some (.int .u64 g3) := HEh.out.cellAt (i := 3) rfl
                have c4 : X2.cell? ⟨bm, 4, none⟩ = some (.int .u64 g4) := HEh.out.cellAt (i := 4) rfl
                have c5 : X2.cell? ⟨bm, 5, none⟩ = some (.int .u64 g5) := HEh.out.cellAt (i := 5) rfl
                have c6 : X2.cell? ⟨bm, 6, none⟩ = some (.int .u64 g6) := HEh.out.cellAt (i := 6) rfl
                have c7 : X2.cell? ⟨bm, 7, none⟩ = some (.int .u64 g7) := HEh.out.cellAt (i := 7) rfl
                have c8 : X2.cell? ⟨bm, 8, none⟩ = some (.bool yb) := HEh.out.cellAt (i := 8) rfl
                have c9 : X2.cell? ⟨bm, 9, none⟩ = some (.slice av nl cv) := HEh.out.cellAt (i := 9) rfl
                have c10 : X2.cell? ⟨bm, 10, none⟩ = some (.string SN) := HEh.out.cellAt (i := 10) rfl
                have q0 : X2.cell? ⟨bo, 0, none⟩ = some (.int .i64 0) := HBh.out.cellAt (i := 0) rfl
                have z0 := HBh.out.froz 0
                have q1 : X2.cell? ⟨bo, 1, none⟩ = some (.int .i64 0) := HBh.out.cellAt (i := 1) rfl
                have z1 := HBh.out.froz 1
                have q2 : X2.cell? ⟨bo, 2, none⟩ = some (.int .i64 0) := HBh.out.cellAt (i := 2) rfl
                have z2 := HBh.out.froz 2
                have q3 : X2.cell? ⟨bo, 3, none⟩ = some (.int .u64 0) := HBh.out.cellAt (i := 3) rfl
                have z3 := HBh.out.froz 3
                have q4 : X2.cell? ⟨bo, 4, none⟩ = some (.int .u64 0) := HBh.out.cellAt (i := 4) rfl
                have z4 := HBh.out.froz 4
                have q5 : X2.cell? ⟨bo, 5, none⟩ = some (.int .u64 0) := HBh.out.cellAt (i := 5) rfl
                have z5 := HBh.out.froz 5
                have q6 : X2.cell? ⟨bo, 6, none⟩ = some (.int .u64 0) := HBh.out.cellAt (i := 6) rfl
                have z6 := HBh.out.froz 6
                have q7 : X2.cell? ⟨bo, 7, none⟩ = some (.int .u64 0) := HBh.out.cellAt (i := 7) rfl
                have z7 := HBh.out.froz 7
                have q8 : X2.cell? ⟨bo, 8, none⟩ = some (.bool false) := HBh.out.cellAt (i := 8) rfl
                have z8 := HBh.out.froz 8
                have q9 : X2.cell? ⟨bo, 9, none⟩ = some (.slice none 0 0) := HBh.out.cellAt (i := 9) rfl
                have z9 := HBh.out.froz 9
                have q10 : X2.cell? ⟨bo, 10, none⟩ = some (.string ⟨#[]⟩) := HBh.out.cellAt (i := 10) rfl
                have z10 := HBh.out.froz 10
                have HX : Hid (Fr [bo] X2 (((((((((((X2.setCell ⟨bo, 0, none⟩ (.int .i64 g0)).setCell ⟨bo, 1, none⟩ (.int .i64 g1)).setCell ⟨bo, 2, none⟩ (.int .i64 g2)).setCell ⟨bo, 3, none⟩ (.int .u64 g3)).setCell ⟨bo, 4, none⟩ (.int .u64 g4)).setCell ⟨bo, 5, none⟩ (.int .u64 g5)).setCell ⟨bo, 6, none⟩ (.int .u64 g6)).setCell ⟨bo, 7, none⟩ (.int .u64 g7)).setCell ⟨bo, 8, none⟩ (.bool yb)).setCell ⟨bo, 9, none⟩ (.slice av nl cv)).setCell ⟨bo, 10, none⟩ (.string SN))) := set11_fr X2 bo (.int .i64 g0) (.int .i64 g1) (.int .i64 g2) (.int .u64 g3) (.int .u64 g4) (.int .u64 g5) (.int .u64 g6) (.int .u64 g7) (.bool yb) (.slice av nl cv) (.string SN)
                have HY : Hid (Blk (((((((((((X2.setCell ⟨bo, 0, none⟩ (.int .i64 g0)).setCell ⟨bo, 1, none⟩ (.int .i64 g1)).setCell ⟨bo, 2, none⟩ (.int .i64 g2)).setCell ⟨bo, 3, none⟩ (.int .u64 g3)).setCell ⟨bo, 4, none⟩ (.int .u64 g4)).setCell ⟨bo, 5, none⟩ (.int .u64 g5)).setCell ⟨bo, 6, none⟩ (.int .u64 g6)).setCell ⟨bo, 7, none⟩ (.int .u64 g7)).setCell ⟨bo, 8, none⟩ (.bool yb)).setCell ⟨bo, 9, none⟩ (.slice av nl cv)).setCell ⟨bo, 10, none⟩ (.string SN)) bo #[.int .i64 g0, .int .i64 g1, .int .i64 g2, .int .u64 g3, .int .u64 g4, .int .u64 g5, .int .u64 g6, .int .u64 g7, .bool yb, .slice av nl cv, .string SN] 47) := HBh.out.put11 _ _ _ _ _ _ _ _ _ _ _
                go_wp2_with fail
                generalize (((((((((((X2.setCell ⟨bo, 0, none⟩ (.int .i64 g0)).setCell ⟨bo, 1, none⟩ (.int .i64 g1)).setCell ⟨bo, 2, none⟩ (.int .i64 g2)).setCell ⟨bo, 3, none⟩ (.int .u64 g3)).setCell ⟨bo, 4, none⟩ (.int .u64 g4)).setCell ⟨bo, 5, none⟩ (.int .u64 g5)).setCell ⟨bo, 6, none⟩ (.int .u64 g6)).setCell ⟨bo, 7, none⟩ (.int .u64 g7)).setCell ⟨bo, 8, none⟩ (.bool yb)).setCell ⟨bo, 9, none⟩ (.slice av nl cv)).setCell ⟨bo, 10, none⟩ (.string SN)) = X at *
                have y0 : X.cell? ⟨bo, 0, none⟩ = some (.int .i64 g0) := HY.out.cellAt (i := 0) rfl
                have y1 : X.cell? ⟨bo, 1, none⟩ = some (.int .i64 g1) := HY.out.cellAt (i := 1) rfl
                have y2 : X.cell? ⟨bo, 2, none⟩ = some (.int .i64 g2) := HY.out.cellAt (i := 2) rfl
                have y3 : X.cell? ⟨bo, 3, none⟩ = some (.int .u64 g3) := HY.out.cellAt (i := 3) rfl
                have y4 : X.cell? ⟨bo, 4, none⟩ = some (.int .u64 g4) := HY.out.cellAt (i := 4) rfl
                have y5 : X.cell? ⟨bo, 5, none⟩ = some (.int .u64 g5) := HY.out.cellAt (i := 5) rfl
                have y6 : X.cell? ⟨bo, 6, none⟩ = some (.int .u64 g6) := HY.out.cellAt (i := 6) rfl
                have y7 : X.cell? ⟨bo, 7, none⟩ = some (.int .u64 g7) := HY.out.cellAt (i := 7) rfl
                have y8 : X.cell? ⟨bo, 8, none⟩ = some (.bool yb) := HY.out.cellAt (i := 8) rfl
                have y9 : X.cell? ⟨bo, 9, none⟩ = some (.slice av nl cv) := HY.out.cellAt (i := 9) rfl
                have y10 : X.cell? ⟨bo, 10, none⟩ = some (.string SN) := HY.out.cellAt (i := 10) rfl
                clear q0 z0 q1 z1 q2 z2 q3 z3 q4 z4 q5 z5 q6 z6 q7 z7 q8 z8 q9 z9 q10 z10
                refine bodyPost_ret (v := .tuple #[.agg #[.int .i64 g0, .int .i64 g1, .int .i64 g2, .int .u64 g3, .int .u64 g4, .int .u64 g5, .int .u64 g6, .int .u64 g7, .bool yb, .slice av nl cv, .string SN], .bool true]) (by simp [results, Tryd.results22, go_sem, y0, y1, y2, y3, y4, y5, y6, y7, y8, y9, y10]) rfl ?_
                rw [HGt.out]
                have HFz : Fr [] w X := (HFh.out.trans HX.out (fun x hx => by simp at hx; subst hx; right; have h9 := Hw.out; omega)).shed (fun x hx => by simp at hx; subst hx; have := Hlt.out; have := Hw.out; omega)
                exact ⟨.slice av nl cv, by rw [Hcm.out], by rw [Hme.out]; exact HVh.out.fr HX.out (fun b hb => by have := HXc.out b (by rw [hb]; simp); have := Hlt.out; have := HG.out; simp; omega), HFz⟩
              · rw [hl]
                have HGt : Hid (gotM L = (msg0, false)) := gotM_no L (by rw [HGo.out, hl]; simp)
                have q0 : X2.cell? ⟨bo, 0, none⟩ = some (.int .i64 0) := HBh.out.cellAt (i := 0) rfl
                have z0 := HBh.out.froz 0
                have q1 : X2.cell? ⟨bo, 1, none⟩ = some (.int .i64 0) := HBh.out.cellAt (i := 1) rfl
                have z1 := HBh.out.froz 1
                have q2 : X2.cell? ⟨bo, 2, none⟩ = some (.int .i64 0) := HBh.out.cellAt (i := 2) rfl
                have z2 := HBh.out.froz 2
                have q3 : X2.cell? ⟨bo, 3, none⟩ = some (.int .u64 0) := HBh.out.cellAt (i := 3) rfl
                have z3 := HBh.out.froz 3
                have q4 : X2.cell? ⟨bo, 4, none⟩ = some (.int .u64 0) := HBh.out.cellAt (i := 4) rfl
                have z4 := HBh.out.froz 4
                have q5 : X2.cell? ⟨bo, 5, none⟩ = some (.int .u64 0) := HBh.out.cellAt (i := 5) rfl
                have z5 := HBh.out.froz 5
                have q6 : X2.cell? ⟨bo, 6, none⟩ = some (.int .u64 0) := HBh.out.cellAt (i := 6) rfl
                have z6 := HBh.out.froz 6
                have q7 : X2.cell? ⟨bo, 7, none⟩ = some (.int .u64 0) := HBh.out.cellAt (i := 7) rfl
                have z7 := HBh.out.froz 7
                have q8 : X2.cell? ⟨bo, 8, none⟩ = some (.bool false) := HBh.out.cellAt (i := 8) rfl
                have z8 := HBh.out.froz 8
                have q9 : X2.cell? ⟨bo, 9, none⟩ = some (.slice none 0 0) := HBh.out.cellAt (i := 9) rfl
                have z9 := HBh.out.froz 9
                have q10 : X2.cell? ⟨bo, 10, none⟩ = some (.string ⟨#[]⟩) := HBh.out.cellAt (i := 10) rfl
                have z10 := HBh.out.froz 10
                have HX : Hid (Fr [bo] X2 (((((((((((X2.setCell ⟨bo, 0, none⟩ (.int .i64 0)).setCell ⟨bo, 1, none⟩ (.int .i64 0)).setCell ⟨bo, 2, none⟩ (.int .i64 0)).setCell ⟨bo, 3, none⟩ (.int .u64 0)).setCell ⟨bo, 4, none⟩ (.int .u64 0)).setCell ⟨bo, 5, none⟩ (.int .u64 0)).setCell ⟨bo, 6, none⟩ (.int .u64 0)).setCell ⟨bo, 7, none⟩ (.int .u64 0)).setCell ⟨bo, 8, none⟩ (.bool false)).setCell ⟨bo, 9, none⟩ (.slice none 0 0)).setCell ⟨bo, 10, none⟩ (.string ⟨#[]⟩))) := set11_fr X2 bo (.int .i64 0) (.int .i64 0) (.int .i64 0) (.int .u64 0) (.int .u64 0) (.int .u64 0) (.int .u64 0) (.int .u64 0) (.bool false) (.slice none 0 0) (.string ⟨#[]⟩)
                have HY : Hid (Blk (((((((((((X2.setCell ⟨bo, 0, none⟩ (.int .i64 0)).setCell ⟨bo, 1, none⟩ (.int .i64 0)).setCell ⟨bo, 2, none⟩ (.int .i64 0)).setCell ⟨bo, 3, none⟩ (.int .u64 0)).setCell ⟨bo, 4, none⟩ (.int .u64 0)).setCell ⟨bo, 5, none⟩ (.int .u64 0)).setCell ⟨bo, 6, none⟩ (.int .u64 0)).setCell ⟨bo, 7, none⟩ (.int .u64 0)).setCell ⟨bo, 8, none⟩ (.bool false)).setCell ⟨bo, 9, none⟩ (.slice none 0 0)).setCell ⟨bo, 10, none⟩ (.string ⟨#[]⟩)) bo #[.int .i64 0, .int .i64 0, .int .i64 0, .int .u64 0, .int .u64 0, .int .u64 0, .int .u64 0, .int .u64 0, .bool false, .slice none 0 0, .string ⟨#[]⟩] 47) := HBh.out.put11 _ _ _ _ _ _ _ _ _ _ _
                go_wp2_with fail
                generalize (((((((((((X2.setCell ⟨bo, 0, none⟩ (.int .i64 0)).setCell ⟨bo, 1, none⟩ (.int .i64 0)).setCell ⟨bo, 2, none⟩ (.int .i64 0)).setCell ⟨bo, 3, none⟩ (.int .u64 0)).setCell ⟨bo, 4, none⟩ (.int .u64 0)).setCell ⟨bo, 5, none⟩ (.int .u64 0)).setCell ⟨bo, 6, none⟩ (.int .u64 0)).setCell ⟨bo, 7, none⟩ (.int .u64 0)).setCell ⟨bo, 8, none⟩ (.bool false)).setCell ⟨bo, 9, none⟩ (.slice none 0 0)).setCell ⟨bo, 10, none⟩ (.string ⟨#[]⟩)) = X at *
                have y0 : X.cell? ⟨bo, 0, none⟩ = some (.int .i64 0) := HY.out.cellAt (i := 0) rfl
                have y1 : X.cell? ⟨bo, 1, none⟩ = some (.int .i64 0) := HY.out.cellAt (i := 1) rfl
                have y2 : X.cell? ⟨bo, 2, none⟩ = some (.int .i64 0) := HY.out.cellAt (i := 2) rfl
                have y3 : X.cell? ⟨bo, 3, none⟩ = some (.int .u64 0) := HY.out.cellAt (i := 3) rfl
                have y4 : X.cell? ⟨bo, 4, none⟩ = some (.int .u64 0) := HY.out.cellAt (i := 4) rfl
                have y5 : X.cell? ⟨bo, 5, none⟩ = some (.int .u64 0) := HY.out.cellAt (i := 5) rfl
                have y6 : X.cell? ⟨bo, 6, none⟩ = some (.int .u64 0) := HY.out.cellAt (i := 6) rfl
                have y7 : X.cell? ⟨bo, 7, none⟩ = some (.int .u64 0) := HY.out.cellAt (i := 7) rfl
                have y8 : X.cell? ⟨bo, 8, none⟩ = some (.bool false) := HY.out.cellAt (i := 8) rfl
                have y9 : X.cell? ⟨bo, 9, none⟩ = some (.slice none 0 0) := HY.out.cellAt (i := 9) rfl
                have y10 : X.cell? ⟨bo, 10, none⟩ = some (.string ⟨#[]⟩) := HY.out.cellAt (i := 10) rfl
                clear q0 z0 q1 z1 q2 z2 q3 z3 q4 z4 q5 z5 q6 z6 q7 z7 q8 z8 q9 z9 q10 z10
                refine bodyPost_ret (v := .tuple #[.agg #[.int .i64 0, .int .i64 0, .int .i64 0, .int .u64 0, .int .u64 0, .int .u64 0, .int .u64 0, .int .u64 0, .bool false, .slice none 0 0, .string ⟨#[]⟩], .bool false]) (by simp [results, Tryd.results22, go_sem, y0, y1, y2, y3, y4, y5, y6, y7, y8, y9, y10]) rfl ?_
                rw [HGt.out]
                have HFz : Fr [] w X := (HFh.out.trans HX.out (fun x hx => by simp at hx; subst hx; right; have h9 := Hw.out; omega)).shed (fun x hx => by simp at hx; subst hx; have := Hlt.out; have := Hw.out; omega)
                exact ⟨noEnts, rfl, (.inl ⟨rfl, none, 0, rfl⟩), HFz⟩
          · have hy1b : 1 < g8 := by omega
            have hy1c : decide (1 < g8) = true := decide_eq_true hy1b
            have HGt : Hid (gotM L = (msg0, false)) := gotM_no L (by rw [HGo.out, decide_eq_false hy1]; simp)
            have q0 : X0.cell? ⟨bo, 0, none⟩ = some (.int .i64 0) := HBf.out.cellAt (i := 0) rfl
            have z0 := HBf.out.froz 0
            have q1 : X0.cell? ⟨bo, 1, none⟩ = some (.int .i64 0) := HBf.out.cellAt (i := 1) rfl
            have z1 := HBf.out.froz 1
            have q2 : X0.cell? ⟨bo, 2, none⟩ = some (.int .i64 0) := HBf.out.cellAt (i := 2) rfl
            have z2 := HBf.out.froz 2
            have q3 : X0.cell? ⟨bo, 3, none⟩ = some (.int .u64 0) := HBf.out.cellAt (i := 3) rfl
            have z3 := HBf.out.froz 3
            have q4 : X0.cell? ⟨bo, 4, none⟩ = some (.int .u64 0) := HBf.out.cellAt (i := 4) rfl
            have z4 := HBf.out.froz 4
            have q5 : X0.cell? ⟨bo, 5, none⟩ = some (.int .u64 0) := HBf.out.cellAt (i := 5) rfl
            have z5 := HBf.out.froz 5
            have q6 : X0.cell? ⟨bo, 6, none⟩ = some (.int .u64 0) := HBf.out.cellAt (i := 6) rfl
            have z6 := HBf.out.froz 6
            have q7 : X0.cell? ⟨bo, 7, none⟩ = some (.int .u64 0) := HBf.out.cellAt (i := 7) rfl
            have z7 := HBf.out.froz 7
            have q8 : X0.cell? ⟨bo, 8, none⟩ = some (.bool false) := HBf.out.cellAt (i := 8) rfl
            have z8 := HBf.out.froz 8
            have q9 : X0.cell? ⟨bo, 9, none⟩ = some (.slice none 0 0) := HBf.out.cellAt (i := 9) rfl
            have z9 := HBf.out.froz 9
            have q10 : X0.cell? ⟨bo, 10, none⟩ = some (.string ⟨#[]⟩) := HBf.out.cellAt (i := 10) rfl
            have z10 := HBf.out.froz 10
            have HX : Hid (Fr [bo] X0 (((((((((((X0.setCell ⟨bo, 0, none⟩ (.int .i64 0)).setCell ⟨bo, 1, none⟩ (.int .i64 0)).setCell ⟨bo, 2, none⟩ (.int .i64 0)).setCell ⟨bo, 3, none⟩ (.int .u64 0)).setCell ⟨bo, 4, none⟩ (.int .u64 0)).setCell ⟨bo, 5, none⟩ (.int .u64 0)).setCell ⟨bo, 6, none⟩ (.int .u64 0)).setCell ⟨bo, 7, none⟩ (.int .u64 0)).setCell ⟨bo, 8, none⟩ (.bool false)).setCell ⟨bo, 9, none⟩ (.slice none 0 0)).setCell ⟨bo, 10, none⟩ (.string ⟨#[]⟩))) := set11_fr X0 bo (.int .i64 0) (.int .i64 0) (.int .i64 0) (.int .u64 0) (.int .u64 0) (.int .u64 0) (.int .u64 0) (.int .u64 0) (.bool false) (.slice none 0 0) (.string ⟨#[]⟩)
            have HY : Hid (Blk (((((((((((X0.setCell ⟨bo, 0, none⟩ (.int .i64 0)).setCell ⟨bo, 1, none⟩ (.int .i64 0)).setCell ⟨bo, 2, none⟩ (.int .i64 0)).setCell ⟨bo, 3, none⟩ (.int .u64 0)).setCell ⟨bo, 4, none⟩ (.int .u64 0)).setCell ⟨bo, 5, none⟩ (.int .u64 0)).setCell ⟨bo, 6, none⟩ (.int .u64 0)).setCell ⟨bo, 7, none⟩ (.int .u64 0)).setCell ⟨bo, 8, none⟩ (.bool false)).setCell ⟨bo, 9, none⟩ (.slice none 0 0)).setCell ⟨bo, 10, none⟩ (.string ⟨#[]⟩)) bo #[.int .i64 0, .int .i64 0, .int .i64 0, .int .u64 0, .int .u64 0, .int .u64 0, .int .u64 0, .int .u64 0, .bool false, .slice none 0 0, .string ⟨#[]⟩] 47) := HBf.out.put11 _ _ _ _ _ _ _ _ _ _ _
            go_wp2_with fail
            generalize (((((((((((X0.setCell ⟨bo, 0, none⟩ (.int .i64 0)).setCell ⟨bo, 1, none⟩ (.int .i64 0)).setCell ⟨bo, 2, none⟩ (.int .i64 0)).setCell ⟨bo, 3, none⟩ (.int .u64 0)).setCell ⟨bo, 4, none⟩ (.int .u64 0)).setCell ⟨bo, 5, none⟩ (.int .u64 0)).setCell ⟨bo, 6, none⟩ (.int .u64 0)).setCell ⟨bo, 7, none⟩ (.int .u64 0)).setCell ⟨bo, 8, none⟩ (.bool false)).setCell ⟨bo, 9, none⟩ (.slice none 0 0)).setCell ⟨bo, 10, none⟩ (.string ⟨#[]⟩)) = X at *
            have y0 : X.cell? ⟨bo, 0, none⟩ = some (.int .i64 0) := HY.out.cellAt (i := 0) rfl
            have y1 : X.cell? ⟨bo, 1, none⟩ = some (.int .i64 0) := HY.out.cellAt (i := 1) rfl
            have y2 : X.cell? ⟨bo, 2, none⟩ = some (.int .i64 0) := HY.out.cellAt (i := 2) rfl
            have y3 : X.cell? ⟨bo, 3, none⟩ = some (.int .u64 0) := HY.out.cellAt (i := 3) rfl
            have y4 : X.cell? ⟨bo, 4, none⟩ = some (.int .u64 0) := HY.out.cellAt (i := 4) rfl
            have y5 : X.cell? ⟨bo, 5, none⟩ = some (.int .u64 0) := HY.out.cellAt (i := 5) rfl
            have y6 : X.cell? ⟨bo, 6, none⟩ = some (.int .u64 0) := HY.out.cellAt (i := 6) rfl
            have y7 : X.cell? ⟨bo, 7, none⟩ = some (.int .u64 0) := HY.out.cellAt (i := 7) rfl
            have y8 : X.cell? ⟨bo, 8, none⟩ = some (.bool false) := HY.out.cellAt (i := 8) rfl
            have y9 : X.cell? ⟨bo, 9, none⟩ = some (.slice none 0 0) := HY.out.cellAt (i := 9) rfl
            have y10 : X.cell? ⟨bo, 10, none⟩ = some (.string ⟨#[]⟩) := HY.out.cellAt (i := 10) rfl
            clear q0 z0 q1 z1 q2 z2 q3 z3 q4 z4 q5 z5 q6 z6 q7 z7 q8 z8 q9 z9 q10 z10
            refine bodyPost_ret (v := .tuple #[.agg #[.int .i64 0, .int .i64 0, .int .i64 0, .int .u64 0, .int .u64 0, .int .u64 0, .int .u64 0, .int .u64 0, .bool false, .slice none 0 0, .string ⟨#[]⟩], .bool false]) (by simp [results, Tryd.results22, go_sem, y0, y1, y2, y3, y4, y5, y6, y7, y8, y9, y10]) rfl ?_
            rw [HGt.out]
            have HFz : Fr [] w X := (HFf.out.trans HX.out (fun x hx => by simp at hx; subst hx; right; have h9 := Hw.out; omega)).shed (fun x hx => by simp at hx; subst hx; have := Hlt.out; have := Hw.out; omega)
            exact ⟨noEnts, rfl, (.inl ⟨rfl, none, 0, rfl⟩), HFz⟩
        · have hl0 : 0 < ((L.length - En : Nat) : Int) := by omega
          generalize ((L.length - En : Nat) : Int) = lf at *
          have HGt : Hid (gotM L = (msg0, false)) := gotM_no L (by rw [HGo.out, decide_eq_false hlf]; simp)
          have q0 : X0.cell? ⟨bo, 0, none⟩ = some (.int .i64 0) := HBf.out.cellAt (i := 0) rfl
          have z0 := HBf.out.froz 0
          have q1 : X0.cell? ⟨bo, 1, none⟩ = some (.int .i64 0) := HBf.out.cellAt (i := 1) rfl
          have z1 := HBf.out.froz 1
          have q2 : X0.cell? ⟨bo, 2, none⟩ = some (.int .i64 0) := HBf.out.cellAt (i := 2) rfl
          have z2 := HBf.out.froz 2
          have q3 : X0.cell? ⟨bo, 3, none⟩ = some (.int .u64 0) := HBf.out.cellAt (i := 3) rfl
          have z3 := HBf.out.froz 3
          have q4 : X0.cell? ⟨bo, 4, none⟩ = some (.int .u64 0) := HBf.out.cellAt (i := 4) rfl
          have z4 := HBf.out.froz 4
          have q5 : X0.cell? ⟨bo, 5, none⟩ = some (.int .u64 0) := HBf.out.cellAt (i := 5) rfl
          have z5 := HBf.out.froz 5
          have q6 : X0.cell? ⟨bo, 6, none⟩ = some (.int .u64 0) := HBf.out.cellAt (i := 6) rfl
          have z6 := HBf.out.froz 6
          have q7 : X0.cell? ⟨bo, 7, none⟩ = some (.int .u64 0) := HBf.out.cellAt (i := 7) rfl
          have z7 := HBf.out.froz 7
          have q8 : X0.cell? ⟨bo, 8, none⟩ = some (.bool false) := HBf.out.cellAt (i := 8) rfl
          have z8 := HBf.out.froz 8
          have q9 : X0.cell? ⟨bo, 9, none⟩ = some (.slice none 0 0) := HBf.out.cellAt (i := 9) rfl
          have z9 := HBf.out.froz 9
          have q10 : X0.cell? ⟨bo, 10, none⟩ = some (.string ⟨#[]⟩) := HBf.out.cellAt (i := 10) rfl
          have z10 := HBf.out.froz 10
          have HX : Hid (Fr [bo] X0 (((((((((((X0.setCell ⟨bo, 0, none⟩ (.int .i64 0)).setCell ⟨bo, 1, none⟩ (.int .i64 0)).setCell ⟨bo, 2, none⟩ (.int .i64 0)).setCell ⟨bo, 3, none⟩ (.int .u64 0)).setCell ⟨bo, 4, none⟩ (.int .u64 0)).setCell ⟨bo, 5, none⟩ (.int .u64 0)).setCell ⟨bo, 6, none⟩ (.int .u64 0)).setCell ⟨bo, 7, none⟩ (.int .u64 0)).setCell ⟨bo, 8, none⟩ (.bool false)).setCell ⟨bo, 9, none⟩ (.slice none 0 0)).setCell ⟨bo, 10, none⟩ (.string ⟨#[]⟩))) := set11_fr X0 bo (.int .i64 0) (.int .i64 0) (.int .i64 0) (.int .u64 0) (.int .u64 0) (.int .u64 0) (.int .u64 0) (.int .u64 0) (.bool false) (.slice none 0 0) (.string ⟨#[]⟩)
          have HY : Hid (Blk (((((((((((X0.setCell ⟨bo, 0, none⟩ (.int .i64 0)).setCell ⟨bo, 1, none⟩ (.int .i64 0)).setCell ⟨bo, 2, none⟩ (.int .i64 0)).setCell ⟨bo, 3, none⟩ (.int .u64 0)).setCell ⟨bo, 4, none⟩ (.int .u64 0)).setCell ⟨bo, 5, none⟩ (.int .u64 0)).setCell ⟨bo, 6, none⟩ (.int .u64 0)).setCell ⟨bo, 7, none⟩ (.int .u64 0)).setCell ⟨bo, 8, none⟩ (.bool false)).setCell ⟨bo, 9, none⟩ (.slice none 0 0)).setCell ⟨bo, 10, none⟩ (.string ⟨#[]⟩)) bo #[.int .i64 0, .int .i64 0, .int .i64 0, .int .u64 0, .int .u64 0, .int .u64 0, .int .u64 0, .int .u64 0, .bool false, .slice none 0 0, .string ⟨#[]⟩] 47) := HBf.out.put11 _ _ _ _ _ _ _ _ _ _ _
          go_wp2_with fail
          generalize (((((((((((X0.setCell ⟨bo, 0, none⟩ (.int .i64 0)).setCell ⟨bo, 1, none⟩ (.int .i64 0)).setCell ⟨bo, 2, none⟩ (.int .i64 0)).setCell ⟨bo, 3, none⟩ (.int .u64 0)).setCell ⟨bo, 4, none⟩ (.int .u64 0)).setCell ⟨bo, 5, none⟩ (.int .u64 0)).setCell ⟨bo, 6, none⟩ (.int .u64 0)).setCell ⟨bo, 7, none⟩ (.int .u64 0)).setCell ⟨bo, 8, none⟩ (.bool false)).setCell ⟨bo, 9, none⟩ (.slice none 0 0)).setCell ⟨bo, 10, none⟩ (.string ⟨#[]⟩)) = X at *
          have y0 : X.cell? ⟨bo, 0, none⟩ = some (.int .i64 0) := HY.out.cellAt (i := 0) rfl
          have y1 : X.cell? ⟨bo, 1, none⟩ = some (.int .i64 0) := HY.out.cellAt (i := 1) rfl
          have y2 : X.cell? ⟨bo, 2, none⟩ = some (.int .i64 0) := HY.out.cellAt (i := 2) rfl
          have y3 : X.cell? ⟨bo, 3, none⟩ = some (.int .u64 0) := HY.out.cellAt (i := 3) rfl
          have y4 : X.cell? ⟨bo, 4, none⟩ = some (.int .u64 0) := HY.out.cellAt (i := 4) rfl
          have y5 : X.cell? ⟨bo, 5, none⟩ = some (.int .u64 0) := HY.out.cellAt (i := 5) rfl
          have y6 : X.cell? ⟨bo, 6, none⟩ = some (.int .u64 0) := HY.out.cellAt (i := 6) rfl
          have y7 : X.cell? ⟨bo, 7, none⟩ = some (.int .u64 0) := HY.out.cellAt (i := 7) rfl
          have y8 : X.cell? ⟨bo, 8, none⟩ = some (.bool false) := HY.out.cellAt (i := 8) rfl
          have y9 : X.cell? ⟨bo, 9, none⟩ = some (.slice none 0 0) := HY.out.cellAt (i := 9) rfl
          have y10 : X.cell? ⟨bo, 10, none⟩ = some (.string ⟨#[]⟩) := HY.out.cellAt (i := 10) rfl
          clear q0 z0 q1 z1 q2 z2 q3 z3 q4 z4 q5 z5 q6 z6 q7 z7 q8 z8 q9 z9 q10 z10
          refine bodyPost_ret (v := .tuple #[.agg #[.int .i64 0, .int .i64 0, .int .i64 0, .int .u64 0, .int .u64 0, .int .u64 0, .int .u64 0, .int .u64 0, .bool false, .slice none 0 0, .string ⟨#[]⟩], .bool false]) (by simp [results, Tryd.results22, go_sem, y0, y1, y2, y3, y4, y5, y6, y7, y8, y9, y10]) rfl ?_
          rw [HGt.out]
          have HFz : Fr [] w X := (HFf.out.trans HX.out (fun x hx => by simp at hx; subst hx; right; have h9 := Hw.out; omega)).shed (fun x hx => by simp at hx; subst hx; have := Hlt.out; have := Hw.out; omega)
          exact ⟨noEnts, rfl, (.inl ⟨rfl, none, 0, rfl⟩), HFz⟩
      · rw [decide_eq_false hle] at HOk
        refine (HOk.out _ HRf.out).mono ?_
        rintro q wq ⟨rfl, rfl⟩
        have hlf : ¬ En = L.length := by omega
        have HGt : Hid (gotM L = (msg0, false)) := gotM_no L (by rw [HGo.out, decide_eq_false hlf]; simp)
        have q0 : X0.cell? ⟨bo, 0, none⟩ = some (.int .i64 0) := HBf.out.cellAt (i := 0) rfl
        have z0 := HBf.out.froz 0
        have q1 : X0.cell? ⟨bo, 1, none⟩ = some (.int .i64 0) := HBf.out.cellAt (i := 1) rfl
        have z1 := HBf.out.froz 1
        have q2 : X0.cell? ⟨bo, 2, none⟩ = some (.int .i64 0) := HBf.out.cellAt (i := 2) rfl
        have z2 := HBf.out.froz 2
        have q3 : X0.cell? ⟨bo, 3, none⟩ = some (.int .u64 0) := HBf.out.cellAt (i := 3) rfl
        have z3 := HBf.out.froz 3
        have q4 : X0.cell? ⟨bo, 4, none⟩ = some (.int .u64 0) := HBf.out.cellAt (i := 4) rfl
        have z4 := HBf.out.froz 4
        have q5 : X0.cell? ⟨bo, 5, none⟩ = some (.int .u64 0) := HBf.out.cellAt (i := 5) rfl
        have z5 := HBf.out.froz 5
        have q6 : X0.cell? ⟨bo, 6, none⟩ = some (.int .u64 0) := HBf.out.cellAt (i := 6) rfl
        have z6 := HBf.out.froz 6
        have q7 : X0.cell? ⟨bo, 7, none⟩ = some (.int .u64 0) := HBf.out.cellAt (i := 7) rfl
        have z7 := HBf.out.froz 7
        have q8 : X0.cell? ⟨bo, 8, none⟩ = some (.bool false) := HBf.out.cellAt (i := 8) rfl
        have z8 := HBf.out.froz 8
        have q9 : X0.cell? ⟨bo, 9, none⟩ = some (.slice none 0 0) := HBf.out.cellAt (i := 9) rfl
        have z9 := HBf.out.froz 9
        have q10 : X0.cell? ⟨bo, 10, none⟩ = some (.string ⟨#[]⟩) := HBf.out.cellAt (i := 10) rfl
        have z10 := HBf.out.froz 10
        have HX : Hid (Fr [bo] X0 (((((((((((X0.setCell ⟨bo, 0, none⟩ (.int .i64 0)).setCell ⟨bo, 1, none⟩ (.int .i64 0)).setCell ⟨bo, 2, none⟩ (.int .i64 0)).setCell ⟨bo, 3, none⟩ (.int .u64 0)).setCell ⟨bo, 4, none⟩ (.int .u64 0)).setCell ⟨bo, 5, none⟩ (.int .u64 0)).setCell ⟨bo, 6, none⟩ (.int .u64 0)).setCell ⟨bo, 7, none⟩ (.int .u64 0)).setCell ⟨bo, 8, none⟩ (.bool false)).setCell ⟨bo, 9, none⟩ (.slice none 0 0)).setCell ⟨bo, 10, none⟩ (.string ⟨#[]⟩))) := set11_fr X0 bo (.int .i64 0) (.int .i64 0) (.int .i64 0) (.int .u64 0) (.int .u64 0) (.int .u64 0) (.int .u64 0) (.int .u64 0) (.bool false) (.slice none 0 0) (.string ⟨#[]⟩)
        have HY : Hid (Blk (((((((((((X0.setCell ⟨bo, 0, none⟩ (.int .i64 0)).setCell ⟨bo, 1, none⟩ (.int .i64 0)).setCell ⟨bo, 2, none⟩ (.int .i64 0)).setCell ⟨bo, 3, none⟩ (.int .u64 0)).setCell ⟨bo, 4, none⟩ (.int .u64 0)).setCell ⟨bo, 5, none⟩ (.int .u64 0)).setCell ⟨bo, 6, none⟩ (.int .u64 0)).setCell ⟨bo, 7, none⟩ (.int .u64 0)).setCell ⟨bo, 8, none⟩ (.bool false)).setCell ⟨bo, 9, none⟩ (.slice none 0 0)).setCell ⟨bo, 10, none⟩ (.string ⟨#[]⟩)) bo #[.int .i64 0, .int .i64 0, .int .i64 0, .int .u64 0, .int .u64 0, .int .u64 0, .int .u64 0, .int .u64 0, .bool false, .slice none 0 0, .string ⟨#[]⟩] 47) := HBf.out.put11 _ _ _ _ _ _ _ _ _ _ _
        go_wp2_with fail
        generalize (((((((((((X0.setCell ⟨bo, 0, none⟩ (.int .i64 0)).setCell ⟨bo, 1, none⟩ (.int .i64 0)).setCell ⟨bo, 2, none⟩ (.int .i64 0)).setCell ⟨bo, 3, none⟩ (.int .u64 0)).setCell ⟨bo, 4, none⟩ (.int .u64 0)).setCell ⟨bo, 5, none⟩ (.int .u64 0)).setCell ⟨bo, 6, none⟩ (.int .u64 0)).setCell ⟨bo, 7, none⟩ (.int .u64 0)).setCell ⟨bo, 8, none⟩ (.bool false)).setCell ⟨bo, 9, none⟩ (.slice none 0 0)).setCell ⟨bo, 10, none⟩ (.string ⟨#[]⟩)) = X at *
        have y0 : X.cell? ⟨bo, 0, none⟩ = some (.int .i64 0) := HY.out.cellAt (i := 0) rfl
        have y1 : X.cell? ⟨bo, 1, none⟩ = some (.int .i64 0) := HY.out.cellAt (i := 1) rfl
        have y2 : X.cell? ⟨bo, 2, none⟩ = some (.int .i64 0) := HY.out.cellAt (i := 2) rfl
        have y3 : X.cell? ⟨bo, 3, none⟩ = some (.int .u64 0) := HY.out.cellAt (i := 3) rfl
        have y4 : X.cell? ⟨bo, 4, none⟩ = some (.int .u64 0) := HY.out.cellAt (i := 4) rfl
        have y5 : X.cell? ⟨bo, 5, none⟩ = some (.int .u64 0) := HY.out.cellAt (i := 5) rfl
        have y6 : X.cell? ⟨bo, 6, none⟩ = some (.int .u64 0) := HY.out.cellAt (i := 6) rfl
        have y7 : X.cell? ⟨bo, 7, none⟩ = some (.int .u64 0) := HY.out.cellAt (i := 7) rfl
        have y8 : X.cell? ⟨bo, 8, none⟩ = some (.bool false) := HY.out.cellAt (i := 8) rfl
        have y9 : X.cell? ⟨bo, 9, none⟩ = some (.slice none 0 0) := HY.out.cellAt (i := 9) rfl
        have y10 : X.cell? ⟨bo, 10, none⟩ = some (.string ⟨#[]⟩) := HY.out.cellAt (i := 10) rfl
        clear q0 z0 q1 z1 q2 z2 q3 z3 q4 z4 q5 z5 q6 z6 q7 z7 q8 z8 q9 z9 q10 z10
        refine bodyPost_ret (v := .tuple #[.agg #[.int .i64 0, .int .i64 0, .int .i64 0, .int .u64 0, .int .u64 0, .int .u64 0, .int .u64 0, .int .u64 0, .bool false, .slice none 0 0, .string ⟨#[]⟩], .bool false]) (by simp [results, Tryd.results22, go_sem, y0, y1, y2, y3, y4, y5, y6, y7, y8, y9, y10]) rfl ?_
        rw [HGt.out]
        have HFz : Fr [] w X := (HFf.out.trans HX.out (fun x hx => by simp at hx; subst hx; right; have h9 := Hw.out; omega)).shed (fun x hx => by simp at hx; subst hx; have := Hlt.out; have := Hw.out; omega)
        exact ⟨noEnts, rfl, (.inl ⟨rfl, none, 0, rfl⟩), HFz⟩
end Go.Proofs.YthfaaoeecajkeaaDoor
