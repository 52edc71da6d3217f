/- Package lex: the contract of fed. -/
import Derived.Test.YtniihjhlkpjnoaaDoorJ8
import Derived.Test.YtniihjhlkpjnoaaDoorLexR
import Derived.Test.YtniihjhlkpjnoaaDoorHeld
import Derived.Sort.CutIn
import Derived.WalkSmall
import Derived.Sort.QuietIn
set_option linter.unusedVariables false
set_option linter.unusedSimpArgs false
namespace Go.Proofs.YtniihjhlkpjnoaaDoor.Given
open Go.RowKit Go.Shelf Go.Proofs.YtniihjhlkpjnoaaDoor.PT Go.Proofs.YtniihjhlkpjnoaaDoorW.PrintWords Go.Proofs.YtniihjhlkpjnoaaDoorW.PrintLast Go.Proofs.YtniihjhlkpjnoaaDoorW.PrintMore
attribute [local go_sem] Oper.semAt_some
attribute [local irreducible] wpOpIn wpAnyHIn
def scanV (d : Int) (r : List UInt8) (m : Int) : Value := .agg #[.int .i64 d, .string (ba r), .int .i64 m]
set_option maxRecDepth 100000 in
set_option maxHeartbeats 0 in
theorem fed_in (N : Nat) (hN : 1 ≤ N) (d : Int) (r : List UInt8) (m : Int) (w : World) (hG : LaidG w) : CallsIn Fence.wide N Tryd.prog 31 #[scanV d r m] w fun e w' => e = .returned (.bool (fedB d r m)) ∧ Below w.heap.size w w' := by
 have hsz := ba_size r
 have hF54 : Fence.wide.fn 54 := trivial
 have hF53 : Fence.wide.fn 53 := trivial
 have hu := Tryd.underlying70
 have hus := Tryd.underlying29
 have HG := Aside0.mk hG
 clear hG
 refine callsIn_of_wp Tryd.func31 rfl trivial ?_ rfl
 simp only [scanV, Tryd.ntmps31, List.size_toArray, List.length_cons, List.length_nil, Nat.reduceAdd, Nat.reduceSub, Array.replicate_succ, Array.replicate_zero, List.push_toArray, List.append_toArray, List.nil_append, List.cons_append]
 gi_upto_region 1 with (fail)
 have hb := (Below.refl w.heap.size w).alloc (Nat.le_refl _) (.cells #[.int .i64 d, .string (ba r), .int .i64 m] 29)
 have HSZ : Aside0 ((w.alloc (.cells #[.int .i64 d, .string (ba r), .int .i64 m] 29)).heap.size = w.heap.size + 1) := ⟨by simp⟩
 have c0 : (w.alloc (.cells #[.int .i64 d, .string (ba r), .int .i64 m] 29)).cell? ⟨w.heap.size, 0, none⟩ = some (.int .i64 d) := by simp [go_sem]
 have c1 : (w.alloc (.cells #[.int .i64 d, .string (ba r), .int .i64 m] 29)).cell? ⟨w.heap.size, 1, none⟩ = some (.string (ba r)) := by simp [go_sem]
 have c2 : (w.alloc (.cells #[.int .i64 d, .string (ba r), .int .i64 m] 29)).cell? ⟨w.heap.size, 2, none⟩ = some (.int .i64 m) := by simp [go_sem]
 generalize (w.alloc (.cells #[.int .i64 d, .string (ba r), .int .i64 m] 29)) = W at hb HSZ c0 c1 c2 ⊢
 have HB := Aside0.mk hb
 clear hb
 gi_cut [21] from 4 (fun p W' => p = .bool (badN d m) ∧ W' = W)
 case first =>
  rename_i J2 K2 hJ2 hK2
  by_cases q1 : d < 0
  ·have n1 : decide (d < 0) = true := decide_eq_true q1
   have HE := Aside0.mk (show badN d m = true by unfold badN; rw [n1]; rfl)
   clear q1
   gi_wp2
   refine Met.intro (hJ2 _ _ ?_)
   repeat apply Exists.intro
   exact ⟨⟨by rw [HE.out], rfl⟩, rfl⟩
  ·have n1 : decide (d < 0) = false := decide_eq_false q1
   by_cases q2 : 1048576 < d
   ·have n2 : decide (1048576 < d) = true := decide_eq_true q2
    have HE := Aside0.mk (show badN d m = true by unfold badN; rw [n1, n2]; rfl)
    clear q1 q2
    gi_wp2
    refine Met.intro (hJ2 _ _ ?_)
    repeat apply Exists.intro
    exact ⟨⟨by rw [HE.out], rfl⟩, rfl⟩
   ·have n2 : decide (1048576 < d) = false := decide_eq_false q2
    by_cases q3 : m < 0
    ·have n3 : decide (m < 0) = true := decide_eq_true q3
     have HE := Aside0.mk (show badN d m = true by unfold badN; rw [n1, n2, n3]; rfl)
     clear q1 q2 q3
     gi_wp2
     refine Met.intro (hJ2 _ _ ?_)
     repeat apply Exists.intro
     exact ⟨⟨by rw [HE.out], rfl⟩, rfl⟩
    ·have n3 : decide (m < 0) = false := decide_eq_false q3
     have HE := Aside0.mk (show badN d m = decide (131072 < m) by unfold badN; rw [n1, n2, n3]; rfl)
     clear q1 q2 q3
     gi_wp2
     refine Met.intro (hJ2 _ _ ?_)
     repeat apply Exists.intro
     exact ⟨⟨by rw [HE.out], rfl⟩, rfl⟩
 case rest =>
  obtain ⟨rfl, hw⟩ := hcut
  subst hw
  by_cases hbad : badN d m = true
  ·have HE := Aside0.mk (show fedB d r m = false by unfold fedB; rw [if_pos hbad])
   rw [hbad]
   clear hbad
   gi_wp2
   go_ret
   exact ⟨by rw [HE.out]; rfl, HB.out⟩
  ·have HE := Aside0.mk (show fedB d r m = if r = [] ∨ 1048576 < r.length then true else !decide (classL r = 6) && !(itemL (classL r) r).sure by unfold fedB; rw [if_neg hbad])
   rw [Bool.eq_false_iff.2 hbad]
   clear hbad c0 c2
   have HP : ((ba r).toList == []) = decide (r = []) := by
    rw [ba_toList]
    by_cases h : r = []
    ·rw [decide_eq_true h, h]; rfl
    ·rw [decide_eq_false h]; exact beq_eq_false_iff_ne.2 h
   by_cases h0 : r = []
   ·have HE2 := Aside0.mk (HE.out.trans (if_pos (.inl h0)))
    rw [decide_eq_true h0] at HP
    clear h0
    gi_wp2
    go_ret
    exact ⟨by rw [HE2.out]; rfl, HB.out⟩
   ·rw [decide_eq_false h0] at HP
    by_cases hl : 1048576 < r.length
    ·have HE2 := Aside0.mk (HE.out.trans (if_pos (.inr hl)))
     have n1 : decide (1048576 < r.length) = true := decide_eq_true hl
     have n2 : decide ((1048576 : Int) < (r.length : Int)) = true := decide_eq_true (by omega)
     clear h0 hl
     gi_wp2
     go_ret
     exact ⟨by rw [HE2.out]; rfl, HB.out⟩
    ·have HE2 := Aside0.mk (HE.out.trans (if_neg (by rintro (h | h); exact h0 h; exact hl h)))
     have n1 : decide (1048576 < r.length) = false := decide_eq_false hl
     have n2 : decide ((1048576 : Int) < (r.length : Int)) = false := decide_eq_false (by omega)
     have HC := Aside0.mk (fun W => class_calls r h0 W)
     have H0 := Aside0.mk h0
     have HL := Aside0.mk hl
     clear h0 hl
     gi_upto_region 6 with (gi_at_call 53; refine (callsIn_wide.2 (HC.out _)).mono ?_; rintro e w1 ⟨rfl, hd1⟩; have HD1 := Aside0.mk hd1; clear hd1)
     have hb1 := HD1.out.below
     have cr : w1.cell? ⟨w.heap.size, 1, none⟩ = some (.string (ba r)) := (bcell hb1 (by rw [HSZ.out]; omega)).trans c1
     have HB1 := Aside0.mk (HB.out.trans (hb1.mono HB.out.size))
     have HSZ1 : Aside0 (w.heap.size < w1.heap.size) := ⟨by have := hb1.size; rw [HSZ.out] at this; omega⟩
     clear c1 hb1
     by_cases h6 : classL r = 6
     ·have HE3 := Aside0.mk (show fedB d r m = false by rw [HE2.out, decide_eq_true h6]; rfl)
      rw [h6]
      have hmx : Tryd.prog.follows .mixedOrders = true := by kernel_rfl
      clear h6
      have hb2 : Below w1.heap.size w1 w1.drew := Drawn0.below ⟨⟨1, rfl⟩⟩
      have HB2 := Aside0.mk (HB1.out.trans (hb2.mono HB1.out.size))
      have cr2 : w1.drew.cell? ⟨w.heap.size, 1, none⟩ = some (.string (ba r)) := (bcell hb2 HSZ1.out).trans cr
      refine wpIn_region_held 12 (S := fun W' => W'.cell? ⟨w.heap.size, 1, none⟩ = some (.string (ba r))) (by kernel_rfl) ?_
      change wpAnyHIn _ _ _ _ _ _ _ _ _ _ _ w1.drew
      generalize w1.drew = wd at HB2 cr2 ⊢
      clear hb2 cr HB1 HSZ1 HD1
      have HCR := Aside0.mk cr2
      clear cr2
      refine wpAnyHIn_take (i := 0) (v := .int .i64 6) (by kernel_rfl) (by kernel_rfl) rfl (by kernel_rfl) (by kernel_rfl) (by kernel_rfl) (fun _ _ _ h => h) (fun _ => by rfl) (.inl ⟨by kernel_rfl, fun w' hw' => by go_simp⟩) HCR.out ?_
      simp only [Act.put, List.setIfInBounds_toArray, List.set_cons_zero, List.set_cons_succ]
      refine wpAnyHIn_take (i := 1) (v := .bool false) (by kernel_rfl) (by kernel_rfl) rfl (by kernel_rfl) (by kernel_rfl) (by kernel_rfl) (fun _ _ _ h => h) (fun _ => by rfl) (.inl ⟨by kernel_rfl, fun w' hw' => by go_simp⟩) HCR.out ?_
      simp only [Act.put, List.setIfInBounds_toArray, List.set_cons_zero, List.set_cons_succ]
      refine wpAnyHIn_take (i := 2) (v := .bool false) (by kernel_rfl) (by kernel_rfl) rfl (by kernel_rfl) (by kernel_rfl) (by kernel_rfl) (fun _ _ _ h => h) (fun _ => by rfl) (.inl ⟨by kernel_rfl, fun w' hw' => by go_simp⟩) HCR.out ?_
      simp only [Act.put, List.setIfInBounds_toArray, List.set_cons_zero, List.set_cons_succ]
      refine wpAnyHIn_take (i := 4) (v := undef) (by kernel_rfl) (by kernel_rfl) rfl (by kernel_rfl) (by kernel_rfl) (by kernel_rfl) (fun _ _ _ h => h) (fun _ => by rfl) (.inr ⟨by kernel_rfl, rfl⟩) HCR.out ?_
      simp only [Act.put, List.setIfInBounds_toArray, List.set_cons_zero, List.set_cons_succ]
      refine wpAnyHIn_take (i := 6) (v := undef) (by kernel_rfl) (by kernel_rfl) rfl (by kernel_rfl) (by kernel_rfl) (by kernel_rfl) (fun _ _ _ h => h) (fun _ => by rfl) (.inr ⟨by kernel_rfl, rfl⟩) HCR.out ?_
      simp only [Act.put, List.setIfInBounds_toArray, List.set_cons_zero, List.set_cons_succ]
      refine wpAnyHIn_take (i := 7) (v := undef) (by kernel_rfl) (by kernel_rfl) rfl (by kernel_rfl) (by kernel_rfl) (by kernel_rfl) (fun _ _ _ h => h) (fun _ => by rfl) (.inr ⟨by kernel_rfl, rfl⟩) HCR.out ?_
      simp only [Act.put, List.setIfInBounds_toArray, List.set_cons_zero, List.set_cons_succ]
      refine wpAnyHIn_one (i := 3) (by kernel_rfl) ?_
      try simp only [Act.put, List.setIfInBounds_toArray, List.set_cons_zero, List.set_cons_succ]
      refine wpOpIn_skip rfl (by kernel_rfl) (fun _ => trivial) ⟨fun _ => HCR.out, ?_⟩
      simp only [Act.put, List.setIfInBounds_toArray, List.set_cons_zero, List.set_cons_succ]
      refine wpAnyHIn_take (i := 5) (v := undef) (by kernel_rfl) (by kernel_rfl) rfl (by kernel_rfl) (by kernel_rfl) (by kernel_rfl) (fun _ _ _ h => h) (fun _ => by rfl) (.inr ⟨by kernel_rfl, rfl⟩) HCR.out ?_
      simp only [Act.put, List.setIfInBounds_toArray, List.set_cons_zero, List.set_cons_succ]
      refine wpAnyHIn_one (i := 8) (by kernel_rfl) ?_
      refine wpOpIn_skip rfl (by kernel_rfl) (fun _ => trivial) ⟨fun _ => HCR.out, ?_⟩
      simp only [Act.put, List.setIfInBounds_toArray, List.set_cons_zero, List.set_cons_succ]
      refine wpAnyHIn_take (i := 9) (v := undef) (by kernel_rfl) (by kernel_rfl) rfl (by kernel_rfl) (by kernel_rfl) (by kernel_rfl) (fun _ _ _ h => h) (fun _ => by rfl) (.inr ⟨by kernel_rfl, rfl⟩) HCR.out ?_
      simp only [Act.put, List.setIfInBounds_toArray, List.set_cons_zero, List.set_cons_succ]
      refine wpAnyHIn_take (i := 10) (v := undef) (by kernel_rfl) (by kernel_rfl) rfl (by kernel_rfl) (by kernel_rfl) (by kernel_rfl) (fun _ _ _ h => h) (fun _ => by rfl) (.inr ⟨by kernel_rfl, rfl⟩) HCR.out ?_
      simp only [Act.put, List.setIfInBounds_toArray, List.set_cons_zero, List.set_cons_succ]
      refine wpAnyHIn_take (i := 11) (v := .bool false) (by kernel_rfl) (by kernel_rfl) rfl (by kernel_rfl) (by kernel_rfl) (by kernel_rfl) (fun _ _ _ h => h) (fun _ => by rfl) (.inl ⟨by kernel_rfl, fun w' hw' => by go_simp⟩) HCR.out ?_
      simp only [Act.put, List.setIfInBounds_toArray, List.set_cons_zero, List.set_cons_succ]
      refine wpAnyHIn_one (i := 12) (by kernel_rfl) ?_
      refine wpOpIn_of rfl (by kernel_rfl) ?_
      go_simp
      refine wpAnyHIn_done (by kernel_rfl) ?_ _
      change Exit.then _ _ _ _ _
      gi_wp2
      go_ret
      exact ⟨by rw [HE3.out]; rfl, HB2.out⟩
     ·have h6e : (classL r == 6) = false := beq_eq_false_iff_ne.2 h6
      have h6d : decide (classL r = 6) = false := decide_eq_false h6
      have h6n : (classL r != 6) = true := bne_iff_ne.2 h6
      obtain ⟨g, cap, i0, hfind, eg, hread⟩ := read_calls r H0.out (by have := HL.out; omega) h6 w1.drew.heap.size
      have hFg : Fence.wide.fn g := trivial
      have HFI := Aside0.mk hfind
      have HRD := Aside0.mk hread
      have HE3 := Aside0.mk (show fedB d r m = !(itemL (classL r) r).sure by rw [HE2.out, decide_eq_false h6]; rfl)
      generalize classL r = cl at h6e h6d h6n HFI HRD HE3 ⊢
      clear h6 hfind hread HC HP n1 n2
      generalize hitx : itemL cl r = x at HRD HE3
      clear hitx
      have hb2 : Below w1.heap.size w1 w1.drew := Drawn0.below ⟨⟨1, rfl⟩⟩
      have HB2 := Aside0.mk (HB1.out.trans (hb2.mono HB1.out.size))
      have HSZ2 : Aside0 (w.heap.size < w1.drew.heap.size) := ⟨by have := hb2.size; have := HSZ1.out; omega⟩
      have cr2 : w1.drew.cell? ⟨w.heap.size, 1, none⟩ = some (.string (ba r)) := (bcell hb2 HSZ1.out).trans cr
      have HG2 := Aside0.mk (HG.out.keep _ HB2.out)
      refine wpIn_region_held 12 (S := fun W' => W'.cell? ⟨w.heap.size, 1, none⟩ = some (.string (ba r))) (by kernel_rfl) ?_
      change wpAnyHIn _ _ _ _ _ _ _ _ _ _ _ w1.drew
      generalize w1.drew = wd at HB2 HSZ2 cr2 HG2 HFI HRD ⊢
      clear hb2 cr HB1 HSZ1 HD1
      have HCR := Aside0.mk cr2
      clear cr2
      refine wpAnyHIn_take (i := 0) (v := .int .i64 cl) (by kernel_rfl) (by kernel_rfl) rfl (by kernel_rfl) (by kernel_rfl) (by kernel_rfl) (fun _ _ _ h => h) (fun _ => by rfl) (.inl ⟨by kernel_rfl, fun w' hw' => by go_simp⟩) HCR.out ?_
      simp only [Act.put, List.setIfInBounds_toArray, List.set_cons_zero, List.set_cons_succ]
      refine wpAnyHIn_take (i := 1) (v := .bool true) (by kernel_rfl) (by kernel_rfl) rfl (by kernel_rfl) (by kernel_rfl) (by kernel_rfl) (fun _ _ _ h => h) (fun _ => by rfl) (.inl ⟨by kernel_rfl, fun w' hw' => by go_simp⟩) HCR.out ?_
      simp only [Act.put, List.setIfInBounds_toArray, List.set_cons_zero, List.set_cons_succ]
      refine wpAnyHIn_take (i := 2) (v := .bool true) (by kernel_rfl) (by kernel_rfl) rfl (by kernel_rfl) (by kernel_rfl) (by kernel_rfl) (fun _ _ _ h => h) (fun _ => by rfl) (.inl ⟨by kernel_rfl, fun w' hw' => by go_simp⟩) HCR.out ?_
      simp only [Act.put, List.setIfInBounds_toArray, List.set_cons_zero, List.set_cons_succ]
      refine wpAnyHIn_take (i := 4) (v := .int .i64 cl) (by kernel_rfl) (by kernel_rfl) rfl (by kernel_rfl) (by kernel_rfl) (by kernel_rfl) (fun _ _ _ h => h) (fun _ => by rfl) (.inl ⟨by kernel_rfl, fun w' hw' => by go_simp⟩) HCR.out ?_
      simp only [Act.put, List.setIfInBounds_toArray, List.set_cons_zero, List.set_cons_succ]
      refine wpAnyHIn_take (i := 6) (v := .pointer (some ⟨w.heap.size, 1, none⟩)) (by kernel_rfl) (by kernel_rfl) rfl (by kernel_rfl) (by kernel_rfl) (by kernel_rfl) (fun _ _ _ h => h) (fun _ => by rfl) (.inl ⟨by kernel_rfl, fun w' hw' => by go_simp⟩) HCR.out ?_
      simp only [Act.put, List.setIfInBounds_toArray, List.set_cons_zero, List.set_cons_succ]
      refine wpAnyHIn_take (i := 7) (v := .string (ba r)) (by kernel_rfl) (by kernel_rfl) rfl (by kernel_rfl) (by kernel_rfl) (by kernel_rfl) (fun _ _ _ h => h) (fun _ => by rfl) (.inl ⟨by kernel_rfl, fun w' hw' => by have cr := hw'; go_simp⟩) HCR.out ?_
      simp only [Act.put, List.setIfInBounds_toArray, List.set_cons_zero, List.set_cons_succ]
      refine wpAnyHIn_one (i := 3) (by kernel_rfl) ?_
      try simp only [Act.put, List.setIfInBounds_toArray, List.set_cons_zero, List.set_cons_succ]
      refine wpOpIn_of rfl (by kernel_rfl) ?_
      go_simp
      refine (callsIn_wide.2 (begins_calls wd HG2.out)).mono ?_
      rintro e w2 ⟨rfl, hw2⟩
      have hrd := Readers.of wd
      rw [← hw2] at hrd
      have hbw : Below wd.heap.size wd w2 := by
       rw [hw2]
       unfold wB
       exact ((((((Below.refl _ _).alloc (Nat.le_refl _) _).alloc (by simp) _).alloc (by simp; omega) _).alloc (by simp; omega) _).alloc (by simp; omega) _).alloc (by simp; omega) _
      have HCR2 : Aside0 (w2.cell? ⟨w.heap.size, 1, none⟩ = some (.string (ba r))) := ⟨(bcell hbw HSZ2.out).trans HCR.out⟩
      have HG3 := Aside0.mk (HG2.out.keep _ hbw)
      have HB3 := Aside0.mk (HB2.out.trans (hbw.mono HB2.out.size))
      have HSZ3 : Aside0 (w.heap.size < w2.heap.size) := ⟨Nat.lt_of_lt_of_le HSZ2.out hbw.size⟩
      have hlo := look_up (mty := 104) Tryd.underlying104 Tryd.underlying101 hrd.hm cl i0 _ HFI.out
      have HRR := Aside0.mk hrd
      clear hw2 hbw hrd
      refine ⟨HCR2.out, ?_⟩
      refine wpAnyHIn_one (i := 5) (by kernel_rfl) ?_
      try simp only [Act.put, List.setIfInBounds_toArray, List.set_cons_zero, List.set_cons_succ]
      refine wpOpIn_of rfl (by kernel_rfl) ?_
      go_simp
      refine ⟨HCR2.out, ?_⟩
      refine wpAnyHIn_one (i := 8) (by kernel_rfl) ?_
      try simp only [Act.put, List.setIfInBounds_toArray, List.set_cons_zero, List.set_cons_succ]
      refine wpOpIn_of rfl (by kernel_rfl) ?_
      go_simp
      refine (callsIn_wide.2 (HRD.out _ HRR.out HG3.out)).mono ?_
      rintro e w3 ⟨rfl, hb3⟩
      have HCR3 : Aside0 (w3.cell? ⟨w.heap.size, 1, none⟩ = some (.string (ba r))) := ⟨(bcell hb3 HSZ3.out).trans HCR2.out⟩
      have HB4 := Aside0.mk (HB3.out.trans (hb3.mono HB3.out.size))
      clear hb3 hlo
      refine ⟨HCR3.out, ?_⟩
      unfold itemV
      refine wpAnyHIn_one (i := 9) (by kernel_rfl) ?_
      try simp only [Act.put, List.setIfInBounds_toArray, List.set_cons_zero, List.set_cons_succ]
      refine wpOpIn_of rfl (by kernel_rfl) ?_
      go_simp
      refine ⟨HCR3.out, ?_⟩
      refine wpAnyHIn_one (i := 10) (by kernel_rfl) ?_
      try simp only [Act.put, List.setIfInBounds_toArray, List.set_cons_zero, List.set_cons_succ]
      refine wpOpIn_of rfl (by kernel_rfl) ?_
      go_simp
      refine ⟨HCR3.out, ?_⟩
      refine wpAnyHIn_one (i := 11) (by kernel_rfl) ?_
      try simp only [Act.put, List.setIfInBounds_toArray, List.set_cons_zero, List.set_cons_succ]
      refine wpOpIn_of rfl (by kernel_rfl) ?_
      go_simp
      refine ⟨HCR3.out, ?_⟩
      refine wpAnyHIn_one (i := 12) (by kernel_rfl) ?_
      try simp only [Act.put, List.setIfInBounds_toArray, List.set_cons_zero, List.set_cons_succ]
      refine wpOpIn_of rfl (by kernel_rfl) ?_
      go_simp
      refine wpAnyHIn_done (by kernel_rfl) ?_ _
      change Exit.then _ _ _ _ _
      gi_wp2
      go_ret
      exact ⟨by rw [HE3.out]; rfl, HB4.out⟩
end Go.Proofs.YtniihjhlkpjnoaaDoor.Given