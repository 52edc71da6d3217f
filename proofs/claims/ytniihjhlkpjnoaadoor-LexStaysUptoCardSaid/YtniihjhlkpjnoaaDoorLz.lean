/- Package lex: Again. -/
import Derived.Test.YtniihjhlkpjnoaaDoorJ12
import Derived.Test.YtniihjhlkpjnoaaDoorJ10
import Derived.Test.YtniihjhlkpjnoaaDoorTa
import Derived.Test.YtniihjhlkpjnoaaDoorJ13
import Derived.Deep.QuietTactic
import Derived.BigQuiet
import Derived.Deep.CutBlock
import Derived.Deep.DeepCutAuto
import Derived.Deep.RegionHeld3
set_option linter.unusedVariables false
set_option linter.unusedSimpArgs false
namespace Go.Proofs.YtniihjhlkpjnoaaDoor.Given
open Go.RowKit Go.Shelf Go.Proofs.YtniihjhlkpjnoaaDoorW.PrintWords Go.Proofs.YtniihjhlkpjnoaaDoorW.PrintLast Go.Proofs.YtniihjhlkpjnoaaDoorW.PrintMore
def runN (p : PV.S42 → PV.S42 → Bool) : List PV.S42 → List PV.S42 → Nat
 | a :: r, b :: s => if p a b = true then runN p r s + 1 else 0
 | _, _ => 0
def sameT (a b : PV.S42) : Bool := (a.f0 == b.f0) && ((a.f1.toList == b.f1.toList) && ((a.f2 == b.f2) && ((a.f3 == b.f3) && (a.f4 == b.f4))))
def movT (d : Int) (a b : PV.S42) : Bool := (a.f0 == b.f0) && ((a.f1.toList == b.f1.toList) && ((a.f2 == b.f2) && ((wrap64 (a.f3 + d) == b.f3) && (wrap64 (a.f4 + d) == b.f4))))
def headN (o m : List PV.S42) : Nat := runN sameT o m
def tailN (d : Int) (o m : List PV.S42) : Nat := runN (movT d) (o.drop (headN o m)).reverse (m.drop (headN o m)).reverse
theorem runN_le (p : PV.S42 → PV.S42 → Bool) : ∀ a b, runN p a b ≤ a.length ∧ runN p a b ≤ b.length
 | [], b => ⟨Nat.zero_le _, Nat.zero_le _⟩
 | _ :: _, [] => ⟨Nat.zero_le _, Nat.zero_le _⟩
 | a :: r, b :: s => by
  have := runN_le p r s
  unfold runN
  split <;> simp <;> omega
theorem runN_stop (p : PV.S42 → PV.S42 → Bool) (a b : List PV.S42) (k : Nat) (h : a.length ≤ k ∨ b.length ≤ k) : runN p (a.drop k) (b.drop k) = 0 := by
 rcases h with h | h
 ·rw [List.drop_of_length_le h]
  rfl
 ·rw [List.drop_of_length_le h]
  cases a.drop k <;> rfl
theorem runN_step (p : PV.S42 → PV.S42 → Bool) (a b : List PV.S42) (k : Nat) (h1 : k < a.length) (h2 : k < b.length) : runN p (a.drop k) (b.drop k) = if p a[k] b[k] = true then runN p (a.drop (k + 1)) (b.drop (k + 1)) + 1 else 0 := by
 rw [List.drop_eq_getElem_cons h1, List.drop_eq_getElem_cons h2]
 rfl
theorem rd_nat {l : List PV.S42} {i : Nat} (h : i < l.length) : PV.rd_T42 l (i : Int) = l[i] := by
 unfold PV.rd_T42
 rw [Int.toNat_natCast, List.getD_eq_getElem?_getD, List.getElem?_eq_getElem h]
 rfl
theorem back_get (l : List PV.S42) (H i : Nat) (h : i < l.length - H) : ((l.drop H).reverse)[i]'(by rw [List.length_reverse, List.length_drop]; exact h) = l[l.length - 1 - i]'(by omega) := by
 rw [List.getElem_reverse, List.getElem_drop]
 congr 1
 rw [List.length_drop]
 omega
theorem runN_rd (p : PV.S42 → PV.S42 → Bool) (a b : List PV.S42) (k : Nat) (h1 : k < a.length) (h2 : k < b.length) : runN p (a.drop k) (b.drop k) = if p (PV.rd_T42 a (k : Int)) (PV.rd_T42 b (k : Int)) = true then runN p (a.drop (k + 1)) (b.drop (k + 1)) + 1 else 0 := by
 rw [runN_step p a b k h1 h2, rd_nat h1, rd_nat h2]
theorem tail_lists (dd : Int) (O M : List PV.S42) : ∃ X Y : List PV.S42, tailN dd O M = runN (movT dd) X Y ∧ X.length = O.length - headN O M ∧ Y.length = M.length - headN O M ∧
  (∀ i : Nat, i < X.length → PV.rd_T42 X (i : Int) = PV.rd_T42 O ((O.length - 1 - i : Nat) : Int)) ∧ (∀ i : Nat, i < Y.length → PV.rd_T42 Y (i : Int) = PV.rd_T42 M ((M.length - 1 - i : Nat) : Int)) := by
 have hl : ∀ (l : List PV.S42) (H : Nat), (l.drop H).reverse.length = l.length - H := fun l H => by rw [List.length_reverse, List.length_drop]
 have hg : ∀ (l : List PV.S42) (H i : Nat), i < (l.drop H).reverse.length → PV.rd_T42 (l.drop H).reverse (i : Int) = PV.rd_T42 l ((l.length - 1 - i : Nat) : Int) := by
  intro l H i h
  have h' := h
  rw [hl] at h'
  rw [rd_nat h, rd_nat (by omega), back_get l H i h']
 exact ⟨_, _, rfl, hl _ _, hl _ _, hg _ _, hg _ _⟩
def lex_Again.f (s : ByteArray) (a d : Int) (p : ByteArray) : Option (List PV.S42 × Int × Int × Int × Int) :=
 if ¬ (lexR (byl s)).2.1 = 0 then some ([], 0, 0, (lexR (byl s)).2.1, ((lexR (byl s)).2.2 : Int)) else
 (text_Apply.f s a d p).bind fun t => if ¬ t.2 = 0 then some ([], 0, 0, t.2, 0) else
 if ¬ (lexR (byl t.1)).2.1 = 0 then some ([], 0, 0, (lexR (byl t.1)).2.1, ((lexR (byl t.1)).2.2 : Int)) else
 some ((lexR (byl t.1)).1.map (tokS 0), (headN ((lexR (byl s)).1.map (tokS 0)) ((lexR (byl t.1)).1.map (tokS 0)) : Int), (tailN (wrap64 ((t.1.size : Int) - (s.size : Int))) ((lexR (byl s)).1.map (tokS 0)) ((lexR (byl t.1)).1.map (tokS 0)) : Int), 0, 0)
theorem eqTok (d : Nat) (w : World) (x0 y0 : Int) (x1 y1 : ByteArray) (x2 y2 : Int) (x3 y3 : Int) (x4 y4 : Int) :
  (Op.equalIn (d + 2) 42 (.agg #[.int .i64 x0, .string x1, .int .i64 x2, .int .i64 x3, .int .i64 x4]) (.agg #[.int .i64 y0, .string y1, .int .i64 y2, .int .i64 y3, .int .i64 y4])).run Tryd.prog w = .ok (x0 == y0 && (x1.toList == y1.toList && (x2 == y2 && (x3 == y3 && (x4 == y4))))) w := by
 refine eqA_of Tryd.underlying42 (by kernel_rfl) ?_
 refine eqf_cons (by rfl) (by go_simp; rfl) (by go_simp; rfl) (by go_simp) ?_
 refine eqf_cons (by rfl) (by go_simp; rfl) (by go_simp; rfl) (by go_simp) ?_
 refine eqf_cons (by rfl) (by go_simp; rfl) (by go_simp; rfl) (by go_simp) ?_
 refine eqf_cons (by rfl) (by go_simp; rfl) (by go_simp; rfl) (by go_simp) ?_
 exact eqf_last (by rfl) (by go_simp; rfl) (by go_simp; rfl) (by go_simp)
attribute [local go_sem high] eqTok
theorem lexR_len (t : List UInt8) : (lexR t).1.length ≤ 1048577 := by
 rcases read_cases t with ⟨e, p, he, h1, _, _⟩ | ⟨hl, xs, hr, hx, h1, _, _⟩
 ·rw [h1]
  exact Nat.zero_le _
 ·rw [h1]
  have := toks_le xs
  show (toksL xs).length ≤ _
  omega
theorem wpOp_of {P : Program} {ops : Array Oper} {Q : Exit → Act → World → Prop} {i : Nat} {o : Oper} {K : Act → World → Prop} {a : Act} {w : World} (hi : ops[i]? = some o) (hw : Region.wanted o (yielded ops a.tmps) = true)
  (h : o.wp P a w K Q) : wpOp P ops Q i K a w := by
 unfold wpOp
 simp only [hi, hw, if_true]
 exact .inl h
attribute [local irreducible] wpAnyH wpOp
theorem all_one {i : Nat} {Q : Nat → Prop} (h : Q i) : ∀ j ∈ [i], Q j := fun j hj => by rw [List.mem_singleton.1 hj]; exact h
def AgnPost (r : List PV.S42 × Int × Int × Int × Int) (w : World) : Ending → World → Prop := fun e w' => ∃ v0_ : Value, e = .returned (.tuple #[v0_, .int .i64 r.2.1, .int .i64 r.2.2.1, .int .i64 r.2.2.2.1, .int .i64 r.2.2.2.2]) ∧ Kd.R PV.k42 42 w' w.heap.size (fun _ => True) v0_ r.1 ∧ Below w.heap.size w w'
set_option maxRecDepth 100000 in
set_option maxHeartbeats 0 in
theorem again_ok (s : ByteArray) (a d : Int) (p t : ByteArray) (w : World) (hG : LaidG w) (h1 : (lexR (byl s)).2.1 = 0) (h2 : text_Apply.f s a d p = some (t, 0)) (h3 : (lexR (byl t)).2.1 = 0) :
  Calls Tryd.prog 21 #[.string s, .agg #[.int .i64 a, .int .i64 d, .string p]] w (AgnPost ((lexR (byl t)).1.map (tokS 0), (headN ((lexR (byl s)).1.map (tokS 0)) ((lexR (byl t)).1.map (tokS 0)) : Int), (tailN (wrap64 ((t.size : Int) - (s.size : Int))) ((lexR (byl s)).1.map (tokS 0)) ((lexR (byl t)).1.map (tokS 0)) : Int), 0, 0) w) := by
 have hue := Tryd.underlying52
 have hut := Tryd.underlying42
 have HL1 := Aside0.mk (fun W (hW : LaidG W) => lex_Lex.calls s _ _ _ W hW rfl)
 have HL2 := Aside0.mk (fun W (hW : LaidG W) => lex_Lex.calls t _ _ _ W hW rfl)
 have HAP := Aside0.mk (fun W => text_Apply.calls s a d p t 0 W h2)
 rw [h1] at HL1
 rw [h3] at HL2
 have ho : ((lexR (byl s)).1.map (tokS 0)).length ≤ 1048577 := by rw [List.length_map]; exact lexR_len _
 have hm : ((lexR (byl t)).1.map (tokS 0)).length ≤ 1048577 := by rw [List.length_map]; exact lexR_len _
 generalize (lexR (byl s)).1.map (tokS 0) = O at HL1 ho ⊢
 generalize (lexR (byl t)).1.map (tokS 0) = M at HL2 hm ⊢
 generalize ((lexR (byl s)).2.2 : Int) = i1 at HL1
 generalize ((lexR (byl t)).2.2 : Int) = i2 at HL2
 obtain ⟨dd, hdd⟩ : ∃ dd, wrap64 ((t.size : Int) - (s.size : Int)) = dd := ⟨_, rfl⟩
 rw [hdd]
 have HDD := Aside0.mk ((i64_w ((t.size : Int) - (s.size : Int))).trans hdd)
 have HG := Aside0.mk hG.keep
 have HO := Aside0.mk ho
 have HM := Aside0.mk hm
 have HX := Aside0.mk (World.alloc_heap_new w (.cells #[.int .i64 a, .int .i64 d, .string p] 52))
 clear h1 h2 h3 hG ho hm hdd
 go_enter Tryd.func21, Tryd.ntmps21
 go_upto_block 0 with (first
  | (go_at_call 11; (with_reducible refine (HL1.out _ (HG.out _ ((Below.refl w.heap.size w).alloc (Nat.le_refl _) _))).mono ?_); rintro e w1 ⟨v1, rfl, hR1, hb1⟩; obtain ⟨A9, c9, rfl, hc9, hC9⟩ := Kd.R_reads hR1; have HC9 := Aside0.mk hC9; have hk1 := (hb1.block w.heap.size (by simp)).trans HX.out; have HB1 := Aside0.mk (((Below.refl w.heap.size w).alloc (Nat.le_refl _) _).trans (hb1.mono (by simp))); have k0 : w1.cell? ⟨w.heap.size, 0, none⟩ = some (.int .i64 a) := (by simp [World.cell?, hk1]); have k1 : w1.cell? ⟨w.heap.size, 1, none⟩ = some (.int .i64 d) := (by simp [World.cell?, hk1]); have k2 : w1.cell? ⟨w.heap.size, 2, none⟩ = some (.string p) := (by simp [World.cell?, hk1]); clear hR1 hb1 hC9 hk1)
  | (go_at_call 44; (with_reducible refine (HAP.out _).mono ?_); rintro e w2 ⟨rfl, hb2⟩; have HC92 := Aside0.mk (Kd.C_below HC9.out hb2); have HB2 := Aside0.mk (HB1.out.trans (hb2.mono HB1.out.size)); clear hb2 HC9 HB1)
  | (go_at_call 11; (with_reducible refine (HL2.out _ (HG.out _ HB2.out)).mono ?_); rintro e w3 ⟨v3, rfl, hR3, hb3⟩; have HR3 := Aside0.mk (Kd.R_lower hR3 HB2.out.size); have HC93 := Aside0.mk (Kd.C_below HC92.out hb3); have HB3 := Aside0.mk (HB2.out.trans (hb3.mono HB2.out.size)); obtain ⟨A4, c4, rfl, hc4, hC4⟩ := Kd.R_reads hR3; have HC4 := Aside0.mk hC4; clear hR3 hb3 HB2 HC92 hC4))
 (try simp only [Act.put, List.setIfInBounds_toArray, List.set_cons_zero, List.set_cons_succ])
 go_cut [5] (fun v5 wc => v5 = .int .i64 (headN O M : Nat) ∧ Aside0 (Below w3.heap.size w3 wc))
 case first =>
  go_wp2_with (fail)
  go_loopw [5] (fun i W => ∃ k : Nat, i = .int .i64 k ∧ k ≤ O.length ∧ k ≤ M.length ∧ Aside0 (Below w3.heap.size w3 W) ∧ Aside0 (headN O M = k + runN sameT (O.drop k) (M.drop k))) (fun i _ => O.length - (intOf i).toNat)
  case atStart => exact ⟨0, rfl, Nat.zero_le _, Nat.zero_le _, ⟨Below.refl _ _⟩, ⟨by simp [headN]⟩⟩
  case round =>
   obtain ⟨k, rfl, hk1, hk2, hb, hr⟩ := hrel
   have kw : IntKind.i64.wrap ((k : Int) + 1) = (k : Int) + 1 := IntWalk.i64_in _ (by have := HO.out; omega)
   by_cases c1 : k < O.length
   ·have n1 : decide (k < O.length) = true := decide_eq_true c1
    have n2 : decide ((k : Int) < (O.length : Int)) = true := decide_eq_true (by omega)
    by_cases c2 : k < M.length
    ·have n3 : decide (k < M.length) = true := decide_eq_true c2
     have n4 : decide ((k : Int) < (M.length : Int)) = true := decide_eq_true (by omega)
     have n5 : (0 : Int) ≤ (k : Int) := by omega
     have n6 : (k : Int) < (O.length : Int) := by omega
     have n7 : (k : Int) < (M.length : Int) := by omega
     have n8 : ¬ (O.length : Int) ≤ (k : Int) := by omega
     have n9 : ¬ (M.length : Int) ≤ (k : Int) := by omega
     obtain ⟨ad9, rfl, x0, x1, x2, x3, x4⟩ := PV.at_T42 (Kd.C_below HC93.out hb.out) (k : Int) n5 n6
     obtain ⟨ad4, rfl, y0, y1, y2, y3, y4⟩ := PV.at_T42 (Kd.C_below HC4.out hb.out) (k : Int) n5 n7
     rw [Int.toNat_natCast] at x0 x1 x2 x3 x4 y0 y1 y2 y3 y4
     have hst := runN_step sameT O M k c1 c2
     rw [← rd_nat c1, ← rd_nat c2] at hst
     have HST := Aside0.mk hst
     have C1 := Aside0.mk c1
     generalize PV.rd_T42 O (k : Int) = ta at x0 x1 x2 x3 x4 HST
     generalize PV.rd_T42 M (k : Int) = tb at y0 y1 y2 y3 y4 HST
     clear hst
     cases hq : sameT ta tb with
     | true =>
      rw [hq] at HST
      unfold sameT at hq
      clear c1 c2 hk1 hk2
      go_wp2_with (fail)
      go_quiet (fail)
      go_wp2_with (fail)
      have hc1 := C1.out
      exact ⟨⟨k + 1, by first | rfl | simp, by omega, by omega, ⟨by repeat (first | exact hb.out | apply pw_below_drewN | apply below_drew)⟩, ⟨by have h := HST.out; simp at h; rw [hr.out, h]; omega⟩⟩, by simp [intOf]; omega⟩
     | false =>
      rw [hq] at HST
      unfold sameT at hq
      have HR := Aside0.mk (show k = headN O M by have h := HST.out; simp at h; rw [hr.out, h]; rfl)
      clear c1 c2 hk1 hk2
      go_wp2_with (fail)
      go_quiet (fail)
      go_wp2_with (fail)
      go_meet
      case rel => exact ⟨by rw [← HR.out], ⟨by repeat (first | exact hb.out | apply pw_below_drewN | apply below_drew)⟩⟩
    ·have n3 : decide (k < M.length) = false := decide_eq_false c2
     have n4 : decide ((k : Int) < (M.length : Int)) = false := decide_eq_false (by omega)
     have HR := Aside0.mk (show k = headN O M by rw [hr.out, runN_stop sameT O M k (.inr (by omega))]; rfl)
     clear c1 c2 hk1 hk2
     go_wp2_with (fail)
     go_quiet (fail)
     go_wp2_with (fail)
     go_meet
     case rel => exact ⟨by rw [← HR.out], ⟨by repeat (first | exact hb.out | apply pw_below_drewN | apply below_drew)⟩⟩
   ·have n1 : decide (k < O.length) = false := decide_eq_false c1
    have n2 : decide ((k : Int) < (O.length : Int)) = false := decide_eq_false (by omega)
    have HR := Aside0.mk (show k = headN O M by rw [hr.out, runN_stop sameT O M k (.inl (by omega))]; rfl)
    clear c1 hk1 hk2
    go_wp2_with (fail)
    go_quiet (fail)
    go_wp2_with (fail)
    go_meet
    case rel => exact ⟨by rw [← HR.out], ⟨by repeat (first | exact hb.out | apply pw_below_drewN | apply below_drew)⟩⟩
 case rest =>
  obtain ⟨rfl, hbc⟩ := hcut
  obtain ⟨hH1, hH2⟩ := runN_le sameT O M
  obtain ⟨X, Y, hT, hxl, hyl, hxg, hyg⟩ := tail_lists dd O M
  change headN O M ≤ O.length at hH1
  change headN O M ≤ M.length at hH2
  have HC9 := Aside0.mk (Kd.C_below HC93.out hbc.out)
  have HC5 := Aside0.mk (Kd.C_below HC4.out hbc.out)
  have HR5 := Aside0.mk (Kd.R_below HR3.out hbc.out)
  have HB5 := Aside0.mk (HB3.out.trans (hbc.out.mono HB3.out.size))
  clear HC93 HC4 HR3 HB3 hbc
  generalize hTE : tailN dd O M = TT at hT
  have HTE := Aside0.mk hTE
  clear hTE
  generalize hHE : headN O M = H at hxl hyl hH1 hH2 ⊢
  have HHE := Aside0.mk hHE
  clear hHE
  have HT := Aside0.mk hT
  have HXL := Aside0.mk hxl
  have HYL := Aside0.mk hyl
  have HXG := Aside0.mk hxg
  have HYG := Aside0.mk hyg
  have HH1 := Aside0.mk hH1
  have HH2 := Aside0.mk hH2
  clear hT hxl hyl hxg hyg hH1 hH2
  go_wp2_with (fail)
  go_loopw [6] (fun i W => ∃ k : Nat, i = .int .i64 k ∧ Aside0 (k ≤ X.length) ∧ Aside0 (k ≤ Y.length) ∧ Aside0 (Below wc.heap.size wc W) ∧ Aside0 (TT = k + runN (movT dd) (X.drop k) (Y.drop k))) (fun i _ => X.length - (intOf i).toNat)
  case atStart => exact ⟨0, rfl, ⟨Nat.zero_le _⟩, ⟨Nat.zero_le _⟩, ⟨Below.refl _ _⟩, ⟨by rw [HT.out]; simp⟩⟩
  case round =>
   obtain ⟨i, rfl, hk1, hk2, hb, hr⟩ := hrel
   have kw : IntKind.i64.wrap ((i : Int) + 1) = (i : Int) + 1 := IntWalk.i64_in _ (by have := HO.out; have := hk1.out; have := HXL.out; omega)
   have kw1 : IntKind.i64.wrap ((O.length : Int) - (H : Int)) = (O.length : Int) - (H : Int) := IntWalk.i64_in _ (by have := HO.out; have := HH1.out; omega)
   have kw2 : IntKind.i64.wrap ((M.length : Int) - (H : Int)) = (M.length : Int) - (H : Int) := IntWalk.i64_in _ (by have := HM.out; have := HH2.out; omega)
   by_cases c1 : i < X.length
   ·have n1 : decide ((i : Int) < (O.length : Int) - (H : Int)) = true := decide_eq_true (by have := HXL.out; have := HH1.out; omega)
    by_cases c2 : i < Y.length
    ·have n2 : decide ((i : Int) < (M.length : Int) - (H : Int)) = true := decide_eq_true (by have := HYL.out; have := HH2.out; omega)
     obtain ⟨jo, hjo⟩ : ∃ jo : Nat, jo = O.length - 1 - i := ⟨_, rfl⟩
     obtain ⟨jn, hjn⟩ : ∃ jn : Nat, jn = M.length - 1 - i := ⟨_, rfl⟩
     have ho1 : jo < O.length := by have := HXL.out; omega
     have hn1 : jn < M.length := by have := HYL.out; omega
     have kw3 : IntKind.i64.wrap ((O.length : Int) - 1) = (O.length : Int) - 1 := IntWalk.i64_in _ (by have := HO.out; omega)
     have kw4 : IntKind.i64.wrap ((O.length : Int) - 1 - (i : Int)) = (jo : Int) := by rw [IntWalk.i64_in _ (by have := HO.out; have := HXL.out; omega)]; have := HXL.out; omega
     have kw5 : IntKind.i64.wrap ((M.length : Int) - 1) = (M.length : Int) - 1 := IntWalk.i64_in _ (by have := HM.out; omega)
     have kw6 : IntKind.i64.wrap ((M.length : Int) - 1 - (i : Int)) = (jn : Int) := by rw [IntWalk.i64_in _ (by have := HM.out; have := HYL.out; omega)]; have := HYL.out; omega
     have m5 : (0 : Int) ≤ (jo : Int) := by omega
     have m6 : (jo : Int) < (O.length : Int) := by omega
     have m7 : (0 : Int) ≤ (jn : Int) := by omega
     have m8 : (jn : Int) < (M.length : Int) := by omega
     have hst := runN_rd (movT dd) X Y i c1 c2
     rw [HXG.out i c1, HYG.out i c2, ← hjo, ← hjn] at hst
     have HST := Aside0.mk hst
     have C1 := Aside0.mk c1
     have C2 := Aside0.mk c2
     clear hst hjo hjn ho1 hn1 c1 c2
     obtain ⟨ad9, rfl, x0, x1, x2, x3, x4⟩ := PV.at_T42 (Kd.C_below HC9.out hb.out) (jo : Int) m5 m6
     obtain ⟨ad4, rfl, y0, y1, y2, y3, y4⟩ := PV.at_T42 (Kd.C_below HC5.out hb.out) (jn : Int) m7 m8
     rw [Int.toNat_natCast] at x0 x1 x2 x3 x4 y0 y1 y2 y3 y4
     generalize PV.rd_T42 O (jo : Int) = ta at x0 x1 x2 x3 x4 HST
     generalize PV.rd_T42 M (jn : Int) = tb at y0 y1 y2 y3 y4 HST
     have hbX := World.block_lt_of_cell? wr _ x0
     have hbY := World.block_lt_of_cell? wr _ y0
     have X0 := Aside0.mk x0
     have X1 := Aside0.mk x1
     have X2 := Aside0.mk x2
     have X3 := Aside0.mk x3
     have X4 := Aside0.mk x4
     have Y0 := Aside0.mk y0
     have Y1 := Aside0.mk y1
     have Y2 := Aside0.mk y2
     have Y3 := Aside0.mk y3
     have Y4 := Aside0.mk y4
     clear x0 x1 x2 x3 x4 y0 y1 y2 y3 y4
     have HMV := Aside0.mk (fun W => PT.lex_moved.calls ta.f0 ta.f1 ta.f2 ta.f3 ta.f4 dd _ _ _ _ _ W rfl)
     have kw7 := HDD.out
     cases hq : movT dd ta tb with
     | true =>
      rw [hq] at HST
      unfold movT at hq
      go_wp2_with (fail)
      refine wp_region_noPanic ?_
      refine wp_region_held (S := fun W => Below wr.heap.size wr W) (by kernel_rfl) ?_
      have hS : Below wr.heap.size wr wr.drew := below_drew (Below.refl _ _)
      change wpAnyH _ _ _ _ _ _ _ _ wr.drew
      generalize wr.drew = W at hS ⊢
      refine wpAnyH_take (i := 0) (v := .int .i64 i) rfl (by kernel_rfl) (by kernel_rfl) (by kernel_rfl) (fun _ _ _ h => h) (.inl ⟨by kernel_rfl, fun w' hw' => by go_simp⟩) hS ?_
      refine wpAnyH_take (i := 1) (v := .slice (some ad9) O.length c9) rfl (by kernel_rfl) (by kernel_rfl) (by kernel_rfl) (fun _ _ _ h => h) (.inl ⟨by kernel_rfl, fun w' hw' => by go_simp⟩) hS ?_
      refine wpAnyH_take (i := 2) (v := .int .i64 O.length) rfl (by kernel_rfl) (by kernel_rfl) (by kernel_rfl) (fun _ _ _ h => h) (.inl ⟨by kernel_rfl, fun w' hw' => by go_simp⟩) hS ?_
      refine wpAnyH_take (i := 3) (v := .int .i64 H) rfl (by kernel_rfl) (by kernel_rfl) (by kernel_rfl) (fun _ _ _ h => h) (.inl ⟨by kernel_rfl, fun w' hw' => by go_simp⟩) hS ?_
      refine wpAnyH_take (i := 4) (v := .int .i64 ((O.length : Int) - (H : Int))) rfl (by kernel_rfl) (by kernel_rfl) (by kernel_rfl) (fun _ _ _ h => h) (.inl ⟨by kernel_rfl, fun w' hw' => by go_simp⟩) hS ?_
      refine wpAnyH_take (i := 5) (v := .bool true) rfl (by kernel_rfl) (by kernel_rfl) (by kernel_rfl) (fun _ _ _ h => h) (.inl ⟨by kernel_rfl, fun w' hw' => by go_simp⟩) hS ?_
      refine wpAnyH_take (i := 6) (v := .bool true) rfl (by kernel_rfl) (by kernel_rfl) (by kernel_rfl) (fun _ _ _ h => h) (.inl ⟨by kernel_rfl, fun w' hw' => by go_simp⟩) hS ?_
      refine wpAnyH_take (i := 7) (v := .int .i64 i) rfl (by kernel_rfl) (by kernel_rfl) (by kernel_rfl) (fun _ _ _ h => h) (.inl ⟨by kernel_rfl, fun w' hw' => by go_simp⟩) hS ?_
      refine wpAnyH_take (i := 8) (v := .slice (some ad4) M.length c4) rfl (by kernel_rfl) (by kernel_rfl) (by kernel_rfl) (fun _ _ _ h => h) (.inl ⟨by kernel_rfl, fun w' hw' => by go_simp⟩) hS ?_
      refine wpAnyH_take (i := 9) (v := .int .i64 M.length) rfl (by kernel_rfl) (by kernel_rfl) (by kernel_rfl) (fun _ _ _ h => h) (.inl ⟨by kernel_rfl, fun w' hw' => by go_simp⟩) hS ?_
      refine wpAnyH_take (i := 10) (v := .int .i64 H) rfl (by kernel_rfl) (by kernel_rfl) (by kernel_rfl) (fun _ _ _ h => h) (.inl ⟨by kernel_rfl, fun w' hw' => by go_simp⟩) hS ?_
      refine wpAnyH_take (i := 11) (v := .int .i64 ((M.length : Int) - (H : Int))) rfl (by kernel_rfl) (by kernel_rfl) (by kernel_rfl) (fun _ _ _ h => h) (.inl ⟨by kernel_rfl, fun w' hw' => by go_simp⟩) hS ?_
      refine wpAnyH_take (i := 12) (v := .bool true) rfl (by kernel_rfl) (by kernel_rfl) (by kernel_rfl) (fun _ _ _ h => h) (.inl ⟨by kernel_rfl, fun w' hw' => by go_simp⟩) hS ?_
      refine wpAnyH_take (i := 13) (v := .bool true) rfl (by kernel_rfl) (by kernel_rfl) (by kernel_rfl) (fun _ _ _ h => h) (.inl ⟨by kernel_rfl, fun w' hw' => by go_simp⟩) hS ?_
      refine wpAnyH_take (i := 14) (v := .bool true) rfl (by kernel_rfl) (by kernel_rfl) (by kernel_rfl) (fun _ _ _ h => h) (.inl ⟨by kernel_rfl, fun w' hw' => by go_simp⟩) hS ?_
      refine wpAnyH_take (i := 15) (v := .slice (some ad9) O.length c9) rfl (by kernel_rfl) (by kernel_rfl) (by kernel_rfl) (fun _ _ _ h => h) (.inl ⟨by kernel_rfl, fun w' hw' => by go_simp⟩) hS ?_
      refine wpAnyH_take (i := 16) (v := .slice (some ad9) O.length c9) rfl (by kernel_rfl) (by kernel_rfl) (by kernel_rfl) (fun _ _ _ h => h) (.inl ⟨by kernel_rfl, fun w' hw' => by go_simp⟩) hS ?_
      refine wpAnyH_take (i := 17) (v := .int .i64 O.length) rfl (by kernel_rfl) (by kernel_rfl) (by kernel_rfl) (fun _ _ _ h => h) (.inl ⟨by kernel_rfl, fun w' hw' => by go_simp⟩) hS ?_
      refine wpAnyH_take (i := 18) (v := .int .i64 ((O.length : Int) - 1)) rfl (by kernel_rfl) (by kernel_rfl) (by kernel_rfl) (fun _ _ _ h => h) (.inl ⟨by kernel_rfl, fun w' hw' => by go_simp⟩) hS ?_
      refine wpAnyH_take (i := 19) (v := .int .i64 i) rfl (by kernel_rfl) (by kernel_rfl) (by kernel_rfl) (fun _ _ _ h => h) (.inl ⟨by kernel_rfl, fun w' hw' => by go_simp⟩) hS ?_
      refine wpAnyH_take (i := 20) (v := .int .i64 jo) rfl (by kernel_rfl) (by kernel_rfl) (by kernel_rfl) (fun _ _ _ h => h) (.inl ⟨by kernel_rfl, fun w' hw' => by go_simp⟩) hS ?_
      refine wpAnyH_take (i := 21) (v := .pointer (some (ad9.add (jo * 5)))) rfl (by kernel_rfl) (by kernel_rfl) (by kernel_rfl) (fun _ _ _ h => h) (.inl ⟨by kernel_rfl, fun w' hw' => by go_simp⟩) hS ?_
      refine wpAnyH_take (i := 22) (v := .agg #[.int .i64 ta.f0, .string ta.f1, .int .i64 ta.f2, .int .i64 ta.f3, .int .i64 ta.f4]) rfl (by kernel_rfl) (by kernel_rfl) (by kernel_rfl) (fun _ _ _ h => h) (.inl ⟨by kernel_rfl, fun w' hw' => by have q0 := (Below.cell hw' (p := ad9.add (jo * 5)) hbX).trans X0.out; have q1 := (Below.cell hw' (p := ⟨(ad9.add (jo * 5)).block, (ad9.add (jo * 5)).off + 1, none⟩) hbX).trans X1.out; have q2 := (Below.cell hw' (p := ⟨(ad9.add (jo * 5)).block, (ad9.add (jo * 5)).off + 2, none⟩) hbX).trans X2.out; have q3 := (Below.cell hw' (p := ⟨(ad9.add (jo * 5)).block, (ad9.add (jo * 5)).off + 3, none⟩) hbX).trans X3.out; have q4 := (Below.cell hw' (p := ⟨(ad9.add (jo * 5)).block, (ad9.add (jo * 5)).off + 4, none⟩) hbX).trans X4.out; go_simp⟩) hS ?_
      refine wpAnyH_take (i := 23) (v := .string t) rfl (by kernel_rfl) (by kernel_rfl) (by kernel_rfl) (fun _ _ _ h => h) (.inl ⟨by kernel_rfl, fun w' hw' => by go_simp⟩) hS ?_
      refine wpAnyH_take (i := 24) (v := .int .i64 t.size) rfl (by kernel_rfl) (by kernel_rfl) (by kernel_rfl) (fun _ _ _ h => h) (.inl ⟨by kernel_rfl, fun w' hw' => by go_simp⟩) hS ?_
      refine wpAnyH_take (i := 25) (v := .string s) rfl (by kernel_rfl) (by kernel_rfl) (by kernel_rfl) (fun _ _ _ h => h) (.inl ⟨by kernel_rfl, fun w' hw' => by go_simp⟩) hS ?_
      refine wpAnyH_take (i := 26) (v := .int .i64 s.size) rfl (by kernel_rfl) (by kernel_rfl) (by kernel_rfl) (fun _ _ _ h => h) (.inl ⟨by kernel_rfl, fun w' hw' => by go_simp⟩) hS ?_
      refine wpAnyH_take (i := 27) (v := .int .i64 dd) rfl (by kernel_rfl) (by kernel_rfl) (by kernel_rfl) (fun _ _ _ h => h) (.inl ⟨by kernel_rfl, fun w' hw' => by go_simp⟩) hS ?_
      refine wpAnyH_take (i := 29) (v := .slice (some ad4) M.length c4) rfl (by kernel_rfl) (by kernel_rfl) (by kernel_rfl) (fun _ _ _ h => h) (.inl ⟨by kernel_rfl, fun w' hw' => by go_simp⟩) hS ?_
      refine wpAnyH_take (i := 30) (v := .slice (some ad4) M.length c4) rfl (by kernel_rfl) (by kernel_rfl) (by kernel_rfl) (fun _ _ _ h => h) (.inl ⟨by kernel_rfl, fun w' hw' => by go_simp⟩) hS ?_
      refine wpAnyH_take (i := 31) (v := .int .i64 M.length) rfl (by kernel_rfl) (by kernel_rfl) (by kernel_rfl) (fun _ _ _ h => h) (.inl ⟨by kernel_rfl, fun w' hw' => by go_simp⟩) hS ?_
      refine wpAnyH_take (i := 32) (v := .int .i64 ((M.length : Int) - 1)) rfl (by kernel_rfl) (by kernel_rfl) (by kernel_rfl) (fun _ _ _ h => h) (.inl ⟨by kernel_rfl, fun w' hw' => by go_simp⟩) hS ?_
      refine wpAnyH_take (i := 33) (v := .int .i64 i) rfl (by kernel_rfl) (by kernel_rfl) (by kernel_rfl) (fun _ _ _ h => h) (.inl ⟨by kernel_rfl, fun w' hw' => by go_simp⟩) hS ?_
      refine wpAnyH_take (i := 34) (v := .int .i64 jn) rfl (by kernel_rfl) (by kernel_rfl) (by kernel_rfl) (fun _ _ _ h => h) (.inl ⟨by kernel_rfl, fun w' hw' => by go_simp⟩) hS ?_
      refine wpAnyH_take (i := 35) (v := .pointer (some (ad4.add (jn * 5)))) rfl (by kernel_rfl) (by kernel_rfl) (by kernel_rfl) (fun _ _ _ h => h) (.inl ⟨by kernel_rfl, fun w' hw' => by go_simp⟩) hS ?_
      refine wpAnyH_take (i := 36) (v := .agg #[.int .i64 tb.f0, .string tb.f1, .int .i64 tb.f2, .int .i64 tb.f3, .int .i64 tb.f4]) rfl (by kernel_rfl) (by kernel_rfl) (by kernel_rfl) (fun _ _ _ h => h) (.inl ⟨by kernel_rfl, fun w' hw' => by have q0 := (Below.cell hw' (p := ad4.add (jn * 5)) hbY).trans Y0.out; have q1 := (Below.cell hw' (p := ⟨(ad4.add (jn * 5)).block, (ad4.add (jn * 5)).off + 1, none⟩) hbY).trans Y1.out; have q2 := (Below.cell hw' (p := ⟨(ad4.add (jn * 5)).block, (ad4.add (jn * 5)).off + 2, none⟩) hbY).trans Y2.out; have q3 := (Below.cell hw' (p := ⟨(ad4.add (jn * 5)).block, (ad4.add (jn * 5)).off + 3, none⟩) hbY).trans Y3.out; have q4 := (Below.cell hw' (p := ⟨(ad4.add (jn * 5)).block, (ad4.add (jn * 5)).off + 4, none⟩) hbY).trans Y4.out; go_simp⟩) hS ?_
      simp only [Act.put, List.setIfInBounds_toArray, List.set_cons_zero, List.set_cons_succ]
      refine wpAnyH_all (rs := [28]) (by kernel_rfl) (List.cons_ne_nil _ _) (all_one ?_)
      refine wpOp_of rfl (by kernel_rfl) ?_
      go_simp
      refine (HMV.out _).mono ?_
      rintro e w4 ⟨rfl, hb4⟩
      replace hS : Below wr.heap.size wr w4 := hS.trans (hb4.mono hS.size)
      refine ⟨hS, ?_⟩
      refine wpAnyH_take (i := 37) (v := .bool true) rfl (by kernel_rfl) (by kernel_rfl) (by kernel_rfl) (fun _ _ _ h => h) (.inl ⟨by kernel_rfl, fun w' hw' => by go_simp⟩) hS ?_
      refine wpAnyH_take (i := 38) (v := .bool true) rfl (by kernel_rfl) (by kernel_rfl) (by kernel_rfl) (fun _ _ _ h => h) (.inl ⟨by kernel_rfl, fun w' hw' => by go_simp⟩) hS ?_
      refine wpAnyH_done (by kernel_rfl) (NoPanic.normal ?_) _
      have hB2 := hb.out.trans (hS.mono hb.out.size)
      have HN := Aside0.mk hB2
      clear hB2 hS hb4 kw1 kw2 kw3 kw4 kw5 kw6 kw7 n1 n2 m5 m6 m7 m8 hq
      change Exit.then _ _ _ _ _
      go_wp2_with (fail)
      have hc1 := C1.out
      have hc2 := C2.out
      exact ⟨⟨i + 1, by first | rfl | simp, ⟨hc1⟩, ⟨hc2⟩, ⟨HN.out⟩, ⟨by have h := HST.out; simp at h; rw [hr.out, h]; omega⟩⟩, by simp [intOf]; omega⟩
     | false =>
      rw [hq] at HST
      have HTK := Aside0.mk (show TT = i by have h := HST.out; simp at h; rw [hr.out, h]; rfl)
      unfold movT at hq
      go_wp2_with (fail)
      refine wp_region_noPanic ?_
      refine wp_region_held (S := fun W => Below wr.heap.size wr W) (by kernel_rfl) ?_
      have hS : Below wr.heap.size wr wr.drew := below_drew (Below.refl _ _)
      change wpAnyH _ _ _ _ _ _ _ _ wr.drew
      generalize wr.drew = W at hS ⊢
      refine wpAnyH_take (i := 0) (v := .int .i64 i) rfl (by kernel_rfl) (by kernel_rfl) (by kernel_rfl) (fun _ _ _ h => h) (.inl ⟨by kernel_rfl, fun w' hw' => by go_simp⟩) hS ?_
      refine wpAnyH_take (i := 1) (v := .slice (some ad9) O.length c9) rfl (by kernel_rfl) (by kernel_rfl) (by kernel_rfl) (fun _ _ _ h => h) (.inl ⟨by kernel_rfl, fun w' hw' => by go_simp⟩) hS ?_
      refine wpAnyH_take (i := 2) (v := .int .i64 O.length) rfl (by kernel_rfl) (by kernel_rfl) (by kernel_rfl) (fun _ _ _ h => h) (.inl ⟨by kernel_rfl, fun w' hw' => by go_simp⟩) hS ?_
      refine wpAnyH_take (i := 3) (v := .int .i64 H) rfl (by kernel_rfl) (by kernel_rfl) (by kernel_rfl) (fun _ _ _ h => h) (.inl ⟨by kernel_rfl, fun w' hw' => by go_simp⟩) hS ?_
      refine wpAnyH_take (i := 4) (v := .int .i64 ((O.length : Int) - (H : Int))) rfl (by kernel_rfl) (by kernel_rfl) (by kernel_rfl) (fun _ _ _ h => h) (.inl ⟨by kernel_rfl, fun w' hw' => by go_simp⟩) hS ?_
      refine wpAnyH_take (i := 5) (v := .bool true) rfl (by kernel_rfl) (by kernel_rfl) (by kernel_rfl) (fun _ _ _ h => h) (.inl ⟨by kernel_rfl, fun w' hw' => by go_simp⟩) hS ?_
      refine wpAnyH_take (i := 6) (v := .bool true) rfl (by kernel_rfl) (by kernel_rfl) (by kernel_rfl) (fun _ _ _ h => h) (.inl ⟨by kernel_rfl, fun w' hw' => by go_simp⟩) hS ?_
      refine wpAnyH_take (i := 7) (v := .int .i64 i) rfl (by kernel_rfl) (by kernel_rfl) (by kernel_rfl) (fun _ _ _ h => h) (.inl ⟨by kernel_rfl, fun w' hw' => by go_simp⟩) hS ?_
      refine wpAnyH_take (i := 8) (v := .slice (some ad4) M.length c4) rfl (by kernel_rfl) (by kernel_rfl) (by kernel_rfl) (fun _ _ _ h => h) (.inl ⟨by kernel_rfl, fun w' hw' => by go_simp⟩) hS ?_
      refine wpAnyH_take (i := 9) (v := .int .i64 M.length) rfl (by kernel_rfl) (by kernel_rfl) (by kernel_rfl) (fun _ _ _ h => h) (.inl ⟨by kernel_rfl, fun w' hw' => by go_simp⟩) hS ?_
      refine wpAnyH_take (i := 10) (v := .int .i64 H) rfl (by kernel_rfl) (by kernel_rfl) (by kernel_rfl) (fun _ _ _ h => h) (.inl ⟨by kernel_rfl, fun w' hw' => by go_simp⟩) hS ?_
      refine wpAnyH_take (i := 11) (v := .int .i64 ((M.length : Int) - (H : Int))) rfl (by kernel_rfl) (by kernel_rfl) (by kernel_rfl) (fun _ _ _ h => h) (.inl ⟨by kernel_rfl, fun w' hw' => by go_simp⟩) hS ?_
      refine wpAnyH_take (i := 12) (v := .bool true) rfl (by kernel_rfl) (by kernel_rfl) (by kernel_rfl) (fun _ _ _ h => h) (.inl ⟨by kernel_rfl, fun w' hw' => by go_simp⟩) hS ?_
      refine wpAnyH_take (i := 13) (v := .bool true) rfl (by kernel_rfl) (by kernel_rfl) (by kernel_rfl) (fun _ _ _ h => h) (.inl ⟨by kernel_rfl, fun w' hw' => by go_simp⟩) hS ?_
      refine wpAnyH_take (i := 14) (v := .bool true) rfl (by kernel_rfl) (by kernel_rfl) (by kernel_rfl) (fun _ _ _ h => h) (.inl ⟨by kernel_rfl, fun w' hw' => by go_simp⟩) hS ?_
      refine wpAnyH_take (i := 15) (v := .slice (some ad9) O.length c9) rfl (by kernel_rfl) (by kernel_rfl) (by kernel_rfl) (fun _ _ _ h => h) (.inl ⟨by kernel_rfl, fun w' hw' => by go_simp⟩) hS ?_
      refine wpAnyH_take (i := 16) (v := .slice (some ad9) O.length c9) rfl (by kernel_rfl) (by kernel_rfl) (by kernel_rfl) (fun _ _ _ h => h) (.inl ⟨by kernel_rfl, fun w' hw' => by go_simp⟩) hS ?_
      refine wpAnyH_take (i := 17) (v := .int .i64 O.length) rfl (by kernel_rfl) (by kernel_rfl) (by kernel_rfl) (fun _ _ _ h => h) (.inl ⟨by kernel_rfl, fun w' hw' => by go_simp⟩) hS ?_
      refine wpAnyH_take (i := 18) (v := .int .i64 ((O.length : Int) - 1)) rfl (by kernel_rfl) (by kernel_rfl) (by kernel_rfl) (fun _ _ _ h => h) (.inl ⟨by kernel_rfl, fun w' hw' => by go_simp⟩) hS ?_
      refine wpAnyH_take (i := 19) (v := .int .i64 i) rfl (by kernel_rfl) (by kernel_rfl) (by kernel_rfl) (fun _ _ _ h => h) (.inl ⟨by kernel_rfl, fun w' hw' => by go_simp⟩) hS ?_
      refine wpAnyH_take (i := 20) (v := .int .i64 jo) rfl (by kernel_rfl) (by kernel_rfl) (by kernel_rfl) (fun _ _ _ h => h) (.inl ⟨by kernel_rfl, fun w' hw' => by go_simp⟩) hS ?_
      refine wpAnyH_take (i := 21) (v := .pointer (some (ad9.add (jo * 5)))) rfl (by kernel_rfl) (by kernel_rfl) (by kernel_rfl) (fun _ _ _ h => h) (.inl ⟨by kernel_rfl, fun w' hw' => by go_simp⟩) hS ?_
      refine wpAnyH_take (i := 22) (v := .agg #[.int .i64 ta.f0, .string ta.f1, .int .i64 ta.f2, .int .i64 ta.f3, .int .i64 ta.f4]) rfl (by kernel_rfl) (by kernel_rfl) (by kernel_rfl) (fun _ _ _ h => h) (.inl ⟨by kernel_rfl, fun w' hw' => by have q0 := (Below.cell hw' (p := ad9.add (jo * 5)) hbX).trans X0.out; have q1 := (Below.cell hw' (p := ⟨(ad9.add (jo * 5)).block, (ad9.add (jo * 5)).off + 1, none⟩) hbX).trans X1.out; have q2 := (Below.cell hw' (p := ⟨(ad9.add (jo * 5)).block, (ad9.add (jo * 5)).off + 2, none⟩) hbX).trans X2.out; have q3 := (Below.cell hw' (p := ⟨(ad9.add (jo * 5)).block, (ad9.add (jo * 5)).off + 3, none⟩) hbX).trans X3.out; have q4 := (Below.cell hw' (p := ⟨(ad9.add (jo * 5)).block, (ad9.add (jo * 5)).off + 4, none⟩) hbX).trans X4.out; go_simp⟩) hS ?_
      refine wpAnyH_take (i := 23) (v := .string t) rfl (by kernel_rfl) (by kernel_rfl) (by kernel_rfl) (fun _ _ _ h => h) (.inl ⟨by kernel_rfl, fun w' hw' => by go_simp⟩) hS ?_
      refine wpAnyH_take (i := 24) (v := .int .i64 t.size) rfl (by kernel_rfl) (by kernel_rfl) (by kernel_rfl) (fun _ _ _ h => h) (.inl ⟨by kernel_rfl, fun w' hw' => by go_simp⟩) hS ?_
      refine wpAnyH_take (i := 25) (v := .string s) rfl (by kernel_rfl) (by kernel_rfl) (by kernel_rfl) (fun _ _ _ h => h) (.inl ⟨by kernel_rfl, fun w' hw' => by go_simp⟩) hS ?_
      refine wpAnyH_take (i := 26) (v := .int .i64 s.size) rfl (by kernel_rfl) (by kernel_rfl) (by kernel_rfl) (fun _ _ _ h => h) (.inl ⟨by kernel_rfl, fun w' hw' => by go_simp⟩) hS ?_
      refine wpAnyH_take (i := 27) (v := .int .i64 dd) rfl (by kernel_rfl) (by kernel_rfl) (by kernel_rfl) (fun _ _ _ h => h) (.inl ⟨by kernel_rfl, fun w' hw' => by go_simp⟩) hS ?_
      refine wpAnyH_take (i := 29) (v := .slice (some ad4) M.length c4) rfl (by kernel_rfl) (by kernel_rfl) (by kernel_rfl) (fun _ _ _ h => h) (.inl ⟨by kernel_rfl, fun w' hw' => by go_simp⟩) hS ?_
      refine wpAnyH_take (i := 30) (v := .slice (some ad4) M.length c4) rfl (by kernel_rfl) (by kernel_rfl) (by kernel_rfl) (fun _ _ _ h => h) (.inl ⟨by kernel_rfl, fun w' hw' => by go_simp⟩) hS ?_
      refine wpAnyH_take (i := 31) (v := .int .i64 M.length) rfl (by kernel_rfl) (by kernel_rfl) (by kernel_rfl) (fun _ _ _ h => h) (.inl ⟨by kernel_rfl, fun w' hw' => by go_simp⟩) hS ?_
      refine wpAnyH_take (i := 32) (v := .int .i64 ((M.length : Int) - 1)) rfl (by kernel_rfl) (by kernel_rfl) (by kernel_rfl) (fun _ _ _ h => h) (.inl ⟨by kernel_rfl, fun w' hw' => by go_simp⟩) hS ?_
      refine wpAnyH_take (i := 33) (v := .int .i64 i) rfl (by kernel_rfl) (by kernel_rfl) (by kernel_rfl) (fun _ _ _ h => h) (.inl ⟨by kernel_rfl, fun w' hw' => by go_simp⟩) hS ?_
      refine wpAnyH_take (i := 34) (v := .int .i64 jn) rfl (by kernel_rfl) (by kernel_rfl) (by kernel_rfl) (fun _ _ _ h => h) (.inl ⟨by kernel_rfl, fun w' hw' => by go_simp⟩) hS ?_
      refine wpAnyH_take (i := 35) (v := .pointer (some (ad4.add (jn * 5)))) rfl (by kernel_rfl) (by kernel_rfl) (by kernel_rfl) (fun _ _ _ h => h) (.inl ⟨by kernel_rfl, fun w' hw' => by go_simp⟩) hS ?_
      refine wpAnyH_take (i := 36) (v := .agg #[.int .i64 tb.f0, .string tb.f1, .int .i64 tb.f2, .int .i64 tb.f3, .int .i64 tb.f4]) rfl (by kernel_rfl) (by kernel_rfl) (by kernel_rfl) (fun _ _ _ h => h) (.inl ⟨by kernel_rfl, fun w' hw' => by have q0 := (Below.cell hw' (p := ad4.add (jn * 5)) hbY).trans Y0.out; have q1 := (Below.cell hw' (p := ⟨(ad4.add (jn * 5)).block, (ad4.add (jn * 5)).off + 1, none⟩) hbY).trans Y1.out; have q2 := (Below.cell hw' (p := ⟨(ad4.add (jn * 5)).block, (ad4.add (jn * 5)).off + 2, none⟩) hbY).trans Y2.out; have q3 := (Below.cell hw' (p := ⟨(ad4.add (jn * 5)).block, (ad4.add (jn * 5)).off + 3, none⟩) hbY).trans Y3.out; have q4 := (Below.cell hw' (p := ⟨(ad4.add (jn * 5)).block, (ad4.add (jn * 5)).off + 4, none⟩) hbY).trans Y4.out; go_simp⟩) hS ?_
      simp only [Act.put, List.setIfInBounds_toArray, List.set_cons_zero, List.set_cons_succ]
      refine wpAnyH_all (rs := [28]) (by kernel_rfl) (List.cons_ne_nil _ _) (all_one ?_)
      refine wpOp_of rfl (by kernel_rfl) ?_
      go_simp
      refine (HMV.out _).mono ?_
      rintro e w4 ⟨rfl, hb4⟩
      replace hS : Below wr.heap.size wr w4 := hS.trans (hb4.mono hS.size)
      refine ⟨hS, ?_⟩
      refine wpAnyH_take (i := 37) (v := .bool false) rfl (by kernel_rfl) (by kernel_rfl) (by kernel_rfl) (fun _ _ _ h => h) (.inl ⟨by kernel_rfl, fun w' hw' => by go_simp⟩) hS ?_
      refine wpAnyH_take (i := 38) (v := .bool false) rfl (by kernel_rfl) (by kernel_rfl) (by kernel_rfl) (fun _ _ _ h => h) (.inl ⟨by kernel_rfl, fun w' hw' => by go_simp⟩) hS ?_
      refine wpAnyH_done (by kernel_rfl) (NoPanic.normal ?_) _
      have hB2 := hb.out.trans (hS.mono hb.out.size)
      have HN := Aside0.mk hB2
      clear hB2 hS hb4 kw1 kw2 kw3 kw4 kw5 kw6 kw7 n1 n2 m5 m6 m7 m8 hq
      change Exit.then _ _ _ _ _
      go_wp2_with (fail)
      refine bodyPost_ret (results_list (rs := [.tmp 4, .tmp 5, .tmp 6, .tmp 7, .tmp 8]) rfl (by simp) (.tmp (.tmp (.tmp (.tmp (.tmp .nil)))))) rfl ?_
      rw [HHE.out, HTE.out, HTK.out]
      exact ⟨_, rfl, Kd.R_below HR5.out HN.out, HB5.out.trans (HN.out.mono HB5.out.size)⟩
    ·have n2 : decide ((i : Int) < (M.length : Int) - (H : Int)) = false := decide_eq_false (by have := HYL.out; have := HH2.out; omega)
     have HTK := Aside0.mk (show TT = i by rw [hr.out, runN_stop (movT dd) X Y i (.inr (by omega))]; rfl)
     clear c1 c2
     go_wp2_with (fail)
     go_quiet (fail)
     go_wp2_with (fail)
     refine bodyPost_ret (results_list (rs := [.tmp 4, .tmp 5, .tmp 6, .tmp 7, .tmp 8]) rfl (by simp) (.tmp (.tmp (.tmp (.tmp (.tmp .nil)))))) rfl ?_
     rw [HHE.out, HTE.out, HTK.out]
     exact ⟨_, rfl, Kd.R_below HR5.out (by repeat (first | exact hb.out | apply pw_below_drewN | apply below_drew)), HB5.out.trans (Below.mono (by repeat (first | exact hb.out | apply pw_below_drewN | apply below_drew)) HB5.out.size)⟩
   ·have n1 : decide ((i : Int) < (O.length : Int) - (H : Int)) = false := decide_eq_false (by have := HXL.out; have := HH1.out; omega)
    have HTK := Aside0.mk (show TT = i by rw [hr.out, runN_stop (movT dd) X Y i (.inl (by omega))]; rfl)
    clear c1
    go_wp2_with (fail)
    go_quiet (fail)
    go_wp2_with (fail)
    refine bodyPost_ret (results_list (rs := [.tmp 4, .tmp 5, .tmp 6, .tmp 7, .tmp 8]) rfl (by simp) (.tmp (.tmp (.tmp (.tmp (.tmp .nil)))))) rfl ?_
    rw [HHE.out, HTE.out, HTK.out]
    exact ⟨_, rfl, Kd.R_below HR5.out (by repeat (first | exact hb.out | apply pw_below_drewN | apply below_drew)), HB5.out.trans (Below.mono (by repeat (first | exact hb.out | apply pw_below_drewN | apply below_drew)) HB5.out.size)⟩
set_option maxRecDepth 100000 in
set_option maxHeartbeats 0 in
theorem again_e1 (s : ByteArray) (a d : Int) (p : ByteArray) (w : World) (hG : LaidG w) (e0 i0 : Int) (he : e0 ≠ 0) (h1 : (lexR (byl s)).2.1 = e0) (h2 : ((lexR (byl s)).2.2 : Int) = i0) :
  Calls Tryd.prog 21 #[.string s, .agg #[.int .i64 a, .int .i64 d, .string p]] w (AgnPost ([], 0, 0, e0, i0) w) := by
 have hue := Tryd.underlying52
 have HL1 := Aside0.mk (fun W (hW : LaidG W) => lex_Lex.calls s _ _ _ W hW rfl)
 rw [h1, h2] at HL1
 generalize (lexR (byl s)).1.map (tokS 0) = O at HL1
 clear h1 h2
 have q1 : (e0 == 0) = false := beq_eq_false_iff_ne.2 he
 have q2 : (e0 != 0) = true := bne_iff_ne.2 he
 have q3 : decide (e0 = 0) = false := decide_eq_false he
 clear he
 have HG := Aside0.mk hG.keep
 have HX := Aside0.mk (World.alloc_heap_new w (.cells #[.int .i64 a, .int .i64 d, .string p] 52))
 clear hG
 go_enter Tryd.func21, Tryd.ntmps21
 go_wp2_with (first | (go_at_call 11; (with_reducible refine (HL1.out _ (HG.out _ ((Below.refl w.heap.size w).alloc (Nat.le_refl _) _))).mono ?_); rintro e w1 ⟨v1, rfl, hR1, hb1⟩; obtain ⟨A9, c9, rfl, hc9, hC9⟩ := Kd.R_reads hR1; have hk1 := (hb1.block w.heap.size (by simp)).trans HX.out; have HB1 := Aside0.mk (((Below.refl w.heap.size w).alloc (Nat.le_refl _) _).trans (hb1.mono (by simp))); have k0 : w1.cell? ⟨w.heap.size, 0, none⟩ = some (.int .i64 a) := (by simp [World.cell?, hk1]); have k1 : w1.cell? ⟨w.heap.size, 1, none⟩ = some (.int .i64 d) := (by simp [World.cell?, hk1]); have k2 : w1.cell? ⟨w.heap.size, 2, none⟩ = some (.string p) := (by simp [World.cell?, hk1]); clear hR1 hb1 hC9 hk1))
 refine bodyPost_ret (results_list (rs := [.tmp 4, .tmp 5, .tmp 6, .tmp 7, .tmp 8]) rfl (by simp) (.tmp (.tmp (.tmp (.tmp (.tmp .nil)))))) rfl ?_
 exact ⟨_, rfl, Kd.R_nil _ _ _ _ _, HB1.out⟩
set_option maxRecDepth 100000 in
set_option maxHeartbeats 0 in
theorem again_e2 (s : ByteArray) (a d : Int) (p : ByteArray) (w : World) (hG : LaidG w) (t : ByteArray) (e0 : Int) (he : e0 ≠ 0) (h1 : (lexR (byl s)).2.1 = 0) (h2 : text_Apply.f s a d p = some (t, e0)) :
  Calls Tryd.prog 21 #[.string s, .agg #[.int .i64 a, .int .i64 d, .string p]] w (AgnPost ([], 0, 0, e0, 0) w) := by
 have hue := Tryd.underlying52
 have HL1 := Aside0.mk (fun W (hW : LaidG W) => lex_Lex.calls s _ _ _ W hW rfl)
 rw [h1] at HL1
 have HAP := Aside0.mk (fun W => text_Apply.calls s a d p t e0 W h2)
 generalize (lexR (byl s)).1.map (tokS 0) = O at HL1
 generalize ((lexR (byl s)).2.2 : Int) = i1 at HL1
 clear h1 h2
 have q1 : (e0 == 0) = false := beq_eq_false_iff_ne.2 he
 have q2 : (e0 != 0) = true := bne_iff_ne.2 he
 have q3 : decide (e0 = 0) = false := decide_eq_false he
 clear he
 have HG := Aside0.mk hG.keep
 have HX := Aside0.mk (World.alloc_heap_new w (.cells #[.int .i64 a, .int .i64 d, .string p] 52))
 clear hG
 go_enter Tryd.func21, Tryd.ntmps21
 go_wp2_with (first | (go_at_call 11; (with_reducible refine (HL1.out _ (HG.out _ ((Below.refl w.heap.size w).alloc (Nat.le_refl _) _))).mono ?_); rintro e w1 ⟨v1, rfl, hR1, hb1⟩; obtain ⟨A9, c9, rfl, hc9, hC9⟩ := Kd.R_reads hR1; have hk1 := (hb1.block w.heap.size (by simp)).trans HX.out; have HB1 := Aside0.mk (((Below.refl w.heap.size w).alloc (Nat.le_refl _) _).trans (hb1.mono (by simp))); have k0 : w1.cell? ⟨w.heap.size, 0, none⟩ = some (.int .i64 a) := (by simp [World.cell?, hk1]); have k1 : w1.cell? ⟨w.heap.size, 1, none⟩ = some (.int .i64 d) := (by simp [World.cell?, hk1]); have k2 : w1.cell? ⟨w.heap.size, 2, none⟩ = some (.string p) := (by simp [World.cell?, hk1]); clear hR1 hb1 hC9 hk1) | (go_at_call 44; (with_reducible refine (HAP.out _).mono ?_); rintro e w2 ⟨rfl, hb2⟩; have HB2 := Aside0.mk (HB1.out.trans (hb2.mono HB1.out.size)); clear hb2 HB1))
 refine bodyPost_ret (results_list (rs := [.tmp 4, .tmp 5, .tmp 6, .tmp 7, .tmp 8]) rfl (by simp) (.tmp (.tmp (.tmp (.tmp (.tmp .nil)))))) rfl ?_
 exact ⟨_, rfl, Kd.R_nil _ _ _ _ _, HB2.out⟩
set_option maxRecDepth 100000 in
set_option maxHeartbeats 0 in
theorem again_e3 (s : ByteArray) (a d : Int) (p : ByteArray) (w : World) (hG : LaidG w) (t : ByteArray) (e0 i0 : Int) (he : e0 ≠ 0) (h1 : (lexR (byl s)).2.1 = 0) (h2 : text_Apply.f s a d p = some (t, 0)) (h3 : (lexR (byl t)).2.1 = e0) (h4 : ((lexR (byl t)).2.2 : Int) = i0) :
  Calls Tryd.prog 21 #[.string s, .agg #[.int .i64 a, .int .i64 d, .string p]] w (AgnPost ([], 0, 0, e0, i0) w) := by
 have hue := Tryd.underlying52
 have HL1 := Aside0.mk (fun W (hW : LaidG W) => lex_Lex.calls s _ _ _ W hW rfl)
 rw [h1] at HL1
 have HL2 := Aside0.mk (fun W (hW : LaidG W) => lex_Lex.calls t _ _ _ W hW rfl)
 rw [h3, h4] at HL2
 have HAP := Aside0.mk (fun W => text_Apply.calls s a d p t 0 W h2)
 generalize (lexR (byl s)).1.map (tokS 0) = O at HL1
 generalize (lexR (byl t)).1.map (tokS 0) = M at HL2
 generalize ((lexR (byl s)).2.2 : Int) = i1 at HL1
 clear h1 h2 h3 h4
 have q1 : (e0 == 0) = false := beq_eq_false_iff_ne.2 he
 have q2 : (e0 != 0) = true := bne_iff_ne.2 he
 have q3 : decide (e0 = 0) = false := decide_eq_false he
 clear he
 have HG := Aside0.mk hG.keep
 have HX := Aside0.mk (World.alloc_heap_new w (.cells #[.int .i64 a, .int .i64 d, .string p] 52))
 clear hG
 go_enter Tryd.func21, Tryd.ntmps21
 go_wp2_with (first | (go_at_call 11; (with_reducible refine (HL1.out _ (HG.out _ ((Below.refl w.heap.size w).alloc (Nat.le_refl _) _))).mono ?_); rintro e w1 ⟨v1, rfl, hR1, hb1⟩; obtain ⟨A9, c9, rfl, hc9, hC9⟩ := Kd.R_reads hR1; have hk1 := (hb1.block w.heap.size (by simp)).trans HX.out; have HB1 := Aside0.mk (((Below.refl w.heap.size w).alloc (Nat.le_refl _) _).trans (hb1.mono (by simp))); have k0 : w1.cell? ⟨w.heap.size, 0, none⟩ = some (.int .i64 a) := (by simp [World.cell?, hk1]); have k1 : w1.cell? ⟨w.heap.size, 1, none⟩ = some (.int .i64 d) := (by simp [World.cell?, hk1]); have k2 : w1.cell? ⟨w.heap.size, 2, none⟩ = some (.string p) := (by simp [World.cell?, hk1]); clear hR1 hb1 hC9 hk1) | (go_at_call 44; (with_reducible refine (HAP.out _).mono ?_); rintro e w2 ⟨rfl, hb2⟩; have HB2 := Aside0.mk (HB1.out.trans (hb2.mono HB1.out.size)); clear hb2 HB1) | (go_at_call 11; (with_reducible refine (HL2.out _ (HG.out _ HB2.out)).mono ?_); rintro e w3 ⟨v3, rfl, hR3, hb3⟩; have HB3 := Aside0.mk (HB2.out.trans (hb3.mono HB2.out.size)); obtain ⟨A4, c4, rfl, hc4, hC4⟩ := Kd.R_reads hR3; clear hR3 hb3 HB2 hC4))
 refine bodyPost_ret (results_list (rs := [.tmp 4, .tmp 5, .tmp 6, .tmp 7, .tmp 8]) rfl (by simp) (.tmp (.tmp (.tmp (.tmp (.tmp .nil)))))) rfl ?_
 exact ⟨_, rfl, Kd.R_nil _ _ _ _ _, HB3.out⟩
theorem lex_Again.calls (a0 : ByteArray) (a1_0 : Int) (a1_1 : Int) (a1_2 : ByteArray) (r1 : List PV.S42) (r2 r3 r4 r5 : Int) (w : World) (hG : LaidG w) (h : lex_Again.f a0 a1_0 a1_1 a1_2 = some (r1, r2, r3, r4, r5)) :
  Calls Tryd.prog 21 #[.string a0, .agg #[.int .i64 a1_0, .int .i64 a1_1, .string a1_2]] w fun e w' => ∃ v0_ : Value, e = .returned (.tuple #[v0_, .int .i64 r2, .int .i64 r3, .int .i64 r4, .int .i64 r5]) ∧ Kd.R PV.k42 42 w' w.heap.size (fun _ => True) v0_ r1 ∧ Below w.heap.size w w' := by
 show Calls _ _ _ w (AgnPost (r1, r2, r3, r4, r5) w)
 unfold lex_Again.f at h
 by_cases h1 : (lexR (byl a0)).2.1 = 0
 ·rw [if_neg (fun g => g h1)] at h
  cases ha : text_Apply.f a0 a1_0 a1_1 a1_2 with
  | none => rw [ha] at h; cases h
  | some t =>
   obtain ⟨t, e⟩ := t
   rw [ha, Option.bind_some] at h
   dsimp only at h
   by_cases h2 : e = 0
   ·subst h2
    rw [if_neg (fun g => g rfl)] at h
    by_cases h3 : (lexR (byl t)).2.1 = 0
    ·rw [if_neg (fun g => g h3)] at h
     rw [← Option.some.inj h]
     exact again_ok a0 a1_0 a1_1 a1_2 t w hG h1 ha h3
    ·rw [if_pos h3] at h
     rw [← Option.some.inj h]
     exact again_e3 a0 a1_0 a1_1 a1_2 w hG t _ _ h3 h1 ha rfl rfl
   ·rw [if_pos h2] at h
    rw [← Option.some.inj h]
    exact again_e2 a0 a1_0 a1_1 a1_2 w hG t _ h2 h1 ha
 ·rw [if_pos h1] at h
  rw [← Option.some.inj h]
  exact again_e1 a0 a1_0 a1_1 a1_2 w hG _ _ h1 rfl rfl
end Go.Proofs.YtniihjhlkpjnoaaDoor.Given