/- The contract of bindings. -/
import Derived.Test.YtgkebfeggekkgaaDoorHe
set_option linter.unusedVariables false
set_option linter.unusedSimpArgs false
namespace Go.Proofs.YtgkebfeggekkgaaDoor.Given
open Go.RowKit Go.Proofs.YtgkebfeggekkgaaDoor.PT Go.Proofs.YtgkebfeggekkgaaDoorW.PrintWords Go.Proofs.YtgkebfeggekkgaaDoorW.PrintLast Go.Proofs.YtgkebfeggekkgaaDoorW.PrintMore

/-- a binding is wrong behind one at a place -/
def badB (last : Int) (b : S34) : Bool := decide (b.f0 ≤ last) || (!decide (b.f1 = 2) && !decide (b.f1 = 3) && !decide (b.f1 = 4)) || (b.f2 && !decide (b.f3.length = 1))
def bindL : Int → List S34 → Int
  | _, [] => 0
  | last, b :: r => if checkL b.f3 = 0 then (if badB last b = true then 1 else bindL b.f0 r) else checkL b.f3
theorem rd34 (l : List S34) (i : Nat) (h : i < l.length) : rd_T34 l (i : Int) = l[i] := by
  unfold rd_T34
  simp [h]
theorem C_single {w : World} {A0 : Option Addr} {c0 : Nat} {l0 : List S31} (hr0 : Kd.C k31 w A0 l0.length l0) (hc0 : l0.length ≤ c0) :
    Kd.C (Kd.slice 31 k31) (w.alloc (.cells #[.slice A0 l0.length c0] 24)) (some ⟨w.heap.size, 0, none⟩) [l0].length [l0] := by
  refine ⟨rfl, by simp, fun _ => ⟨_, rfl, fun j y hj => ?_⟩⟩
  rcases j with _ | j
  · obtain rfl : l0 = y := by simpa using hj
    refine ⟨[.slice A0 l0.length c0], rfl, ⟨A0, c0, rfl, hc0, Kd.C_alloc hr0 _⟩, fun i v hv => ?_⟩
    have hi0 : i = 0 := by
      rcases i with _ | i
      · rfl
      · simp at hv
    subst hi0
    obtain rfl : Value.slice A0 l0.length c0 = v := by simpa using hv
    simp [Addr.add, go_sem, Kd.slice]
  · simp at hj
theorem validL_one (l : List S31) : validL [l] = checkL l := by
  show (if checkL l = 0 then 0 else checkL l) = _
  split
  · rename_i h; exact h.symm
  · rfl
section
variable {A0 : Option Addr} {c0 : Nat} {l0 : List S31} {w : World} (hr0 : Kd.C k31 w A0 l0.length l0) (hc0 : l0.length ≤ c0)
include hr0 hc0
theorem valid1_ok {g : Nat} (hg : w.heap.size = g) (hz : checkL l0 = 0) : Calls Tryd.prog 62 #[.slice (some ⟨g, 0, none⟩) 1 1] (w.alloc (.cells #[.slice A0 l0.length c0] 24)) fun e w' => e = .returned (.tuple #[]) ∧ Below g w w' := by
  subst hg
  exact (valid_ok _ 1 [l0] _ (C_single hr0 hc0) (Nat.le_refl _) (by rw [validL_one, hz])).mono fun _ _ ⟨h1, h2⟩ => ⟨h1, ((Below.refl _ _).alloc (Nat.le_refl _) _).trans (h2.mono (by simp))⟩
theorem valid1_bad {g : Nat} (hg : w.heap.size = g) (z : Int) (hz : checkL l0 = z) (h : ¬ z = 0) : Calls Tryd.prog 62 #[.slice (some ⟨g, 0, none⟩) 1 1] (w.alloc (.cells #[.slice A0 l0.length c0] 24)) fun e w' => e = .panicked (failE z) ∧ Below g w w' := by
  subst hg
  exact (valid_bad _ 1 [l0] _ (C_single hr0 hc0) (Nat.le_refl _) z (by rw [validL_one, hz]) h).mono fun _ _ ⟨h1, h2⟩ => ⟨h1, ((Below.refl _ _).alloc (Nat.le_refl _) _).trans (h2.mono (by simp))⟩
end
def BindPost (z : Int) (w : World) (e : Ending) (w' : World) : Prop := (if z = 0 then e = .returned (.tuple #[]) else e = .panicked (failE z)) ∧ Below w.heap.size w w'
theorem bind_ok {x : S34} {r : List S34} {last : Int} (h : checkL x.f3 = 0) (hb : badB last x = false) : bindL last (x :: r) = bindL x.f0 r := by rw [bindL, if_pos h, if_neg (by rw [hb]; decide)]
theorem bind_bad {x : S34} {r : List S34} {last : Int} (h : checkL x.f3 = 0) (hb : badB last x = true) : bindL last (x :: r) = 1 := by rw [bindL, if_pos h, if_pos hb]
set_option maxRecDepth 100000 in
set_option maxHeartbeats 4000000 in
theorem bindings_post (A : Option Addr) (c : Nat) (ls : List S34) (w : World) (hr : Kd.C k34 w A ls.length ls) (hc : ls.length ≤ c) :
    Calls Tryd.prog 50 #[.slice A ls.length c] w (BindPost (bindL (-1) ls) w) := by
  have hl : ls.length ≤ 9223372036854775807 := hr.2.1
  have HR := Aside0.mk hr
  have hu34 := Tryd.underlying34
  clear hr
  generalize hZ : bindL (-1) ls = Z
  have HZ := Aside0.mk hZ
  clear hZ
  go_enter Tryd.func50, Tryd.ntmps50
  go_wp2
  go_loopw [2, 7] (fun s i W => ∃ (k : Nat) (last : Int), k ≤ ls.length ∧ i = .int .i64 k ∧ s = .int .i64 last ∧ Aside0 (Below w.heap.size w W) ∧ Aside0 (bindL last (ls.drop k) = Z)) (fun _ i _ => ls.length - (intOf i).toNat)
  case atStart => exact ⟨0, -1, Nat.zero_le _, rfl, rfl, ⟨Below.refl _ _⟩, ⟨by rw [List.drop_zero]; exact HZ.out⟩⟩
  case round =>
    obtain ⟨k, last, hk, rfl, rfl, hbel, hrest⟩ := hrel
    by_cases hlt : k < ls.length
    · obtain ⟨ad, A3, c3, rfl, hx0, hx1, hx2, hx3, hc3, hg⟩ := at_T34 (Kd.C_below HR.out hbel.out) (k : Int) (by omega) (by omega)
      rw [Int.toNat_natCast] at hx0 hx1 hx2 hx3
      have hrd := rd34 ls k hlt
      generalize hgl : rd_T34 ls (k : Int) = x at hx0 hx1 hx2 hx3 hc3 hg hrd
      have hdrop : ls.drop k = x :: ls.drop (k + 1) := by rw [List.drop_eq_getElem_cons hlt, ← hrd]
      have hsz := hbel.out.size
      have HG := Aside0.mk hg
      have hrest2 := Aside0.mk (show bindL last (x :: ls.drop (k + 1)) = Z by rw [← hdrop]; exact hrest.out)
      clear hgl hrd hdrop hg hrest
      by_cases hch : checkL x.f3 = 0
      · have HV := Aside0.mk (valid1_ok (Kd.C_alloc HG.out (.cells #[.int .i64 x.f0, .int .i64 x.f1, .bool x.f2, .slice A3 x.f3.length c3] 34)) hc3 (g := wr.heap.size + 1) (by simp) hch)
        have hfin : ∀ (b : Bool), badB last x = b → Aside0 (if b = true then Z = 1 else bindL x.f0 (ls.drop (k + 1)) = Z) := fun b hb => ⟨by
          cases b with
          | true => rw [if_pos rfl]; exact hrest2.out.symm.trans (bind_bad hch hb)
          | false => rw [if_neg (by decide)]; exact (bind_ok hch hb).symm.trans hrest2.out⟩
        have HF := Aside0.mk hfin
        clear hch hrest2 hfin
        obtain ⟨f0, f1, f2, f3⟩ := x
        dsimp only at hx0 hx1 hx2 hx3 hc3 HG HV HF
        by_cases q0 : f0 ≤ last
        · have hz := HF.out true (by unfold badB; rw [decide_eq_true q0]; rfl)
          have d0 : decide (f0 ≤ last) = true := decide_eq_true q0
          rw [if_pos rfl] at hz
          clear HF q0
          go_wp2_with (first | (go_at_call 62; (with_reducible refine HV.out.mono ?_); rintro e w1 ⟨rfl, hb1⟩; have HB1 := Aside0.mk hb1; have e0 := (bcell hb1 (b := wr.heap.size) (o := 0) (by omega)).trans (show _ = some (.int .i64 f0) by simp [go_sem]); have e1 := (bcell hb1 (b := wr.heap.size) (o := 1) (by omega)).trans (show _ = some (.int .i64 f1) by simp [go_sem]); have e2 := (bcell hb1 (b := wr.heap.size) (o := 2) (by omega)).trans (show _ = some (.bool f2) by simp [go_sem]); have e3 := (bcell hb1 (b := wr.heap.size) (o := 3) (by omega)).trans (show _ = some (.slice A3 f3.length c3) by simp [go_sem]); clear hb1) | (go_at_call 51; (with_reducible refine (fail_true _ _).mono ?_); rintro e w2 ⟨rfl, rfl⟩))
          exact ⟨rfl, by rw [hz.out, if_neg (by decide)], (hbel.out.alloc hsz _).trans (HB1.out.mono (by omega))⟩
        · have d0 : decide (f0 ≤ last) = false := decide_eq_false q0
          by_cases q2 : f1 = 2
          · subst q2
            cases f2 with
            | false =>
              have hz := HF.out false (by unfold badB; rw [d0]; simp)
              rw [if_neg (by decide)] at hz
              clear HF
              go_wp2_with (first | (go_at_call 62; (with_reducible refine HV.out.mono ?_); rintro e w1 ⟨rfl, hb1⟩; have HB1 := Aside0.mk hb1; have e0 := (bcell hb1 (b := wr.heap.size) (o := 0) (by omega)).trans (show _ = some (.int .i64 f0) by simp [go_sem]); have e1 := (bcell hb1 (b := wr.heap.size) (o := 1) (by omega)).trans (show _ = some (.int .i64 2) by simp [go_sem]); have e2 := (bcell hb1 (b := wr.heap.size) (o := 2) (by omega)).trans (show _ = some (.bool false) by simp [go_sem]); have e3 := (bcell hb1 (b := wr.heap.size) (o := 3) (by omega)).trans (show _ = some (.slice A3 f3.length c3) by simp [go_sem]); clear hb1) | (go_at_call 51; (with_reducible refine (fail_false _ _).mono ?_); rintro e w2 ⟨rfl, rfl⟩))
              exact ⟨⟨k + 1, f0, by omega, by first | rfl | simp, rfl, ⟨(hbel.out.alloc hsz _).trans (HB1.out.mono (by omega))⟩, hz⟩, by simp [intOf]; omega⟩
            | true =>
              by_cases ql : f3.length = 1
              · have hz := HF.out false (by unfold badB; rw [d0, decide_eq_true ql]; simp)
                rw [if_neg (by decide)] at hz
                have l0 : ((f3.length : Int) != 1) = false := by simp; omega
                have l1 : decide (f3.length = 1) = true := decide_eq_true ql
                clear HF ql
                go_wp2_with (first | (go_at_call 62; (with_reducible refine HV.out.mono ?_); rintro e w1 ⟨rfl, hb1⟩; have HB1 := Aside0.mk hb1; have e0 := (bcell hb1 (b := wr.heap.size) (o := 0) (by omega)).trans (show _ = some (.int .i64 f0) by simp [go_sem]); have e1 := (bcell hb1 (b := wr.heap.size) (o := 1) (by omega)).trans (show _ = some (.int .i64 2) by simp [go_sem]); have e2 := (bcell hb1 (b := wr.heap.size) (o := 2) (by omega)).trans (show _ = some (.bool true) by simp [go_sem]); have e3 := (bcell hb1 (b := wr.heap.size) (o := 3) (by omega)).trans (show _ = some (.slice A3 f3.length c3) by simp [go_sem]); clear hb1) | (go_at_call 51; (with_reducible refine (fail_false _ _).mono ?_); rintro e w2 ⟨rfl, rfl⟩))
                exact ⟨⟨k + 1, f0, by omega, by first | rfl | simp, rfl, ⟨(hbel.out.alloc hsz _).trans (HB1.out.mono (by omega))⟩, hz⟩, by simp [intOf]; omega⟩
              · have hz := HF.out true (by unfold badB; rw [d0, decide_eq_false ql]; simp)
                rw [if_pos rfl] at hz
                have l0 : ((f3.length : Int) != 1) = true := by simp; omega
                have l1 : decide (f3.length = 1) = false := decide_eq_false ql
                clear HF ql
                go_wp2_with (first | (go_at_call 62; (with_reducible refine HV.out.mono ?_); rintro e w1 ⟨rfl, hb1⟩; have HB1 := Aside0.mk hb1; have e0 := (bcell hb1 (b := wr.heap.size) (o := 0) (by omega)).trans (show _ = some (.int .i64 f0) by simp [go_sem]); have e1 := (bcell hb1 (b := wr.heap.size) (o := 1) (by omega)).trans (show _ = some (.int .i64 2) by simp [go_sem]); have e2 := (bcell hb1 (b := wr.heap.size) (o := 2) (by omega)).trans (show _ = some (.bool true) by simp [go_sem]); have e3 := (bcell hb1 (b := wr.heap.size) (o := 3) (by omega)).trans (show _ = some (.slice A3 f3.length c3) by simp [go_sem]); clear hb1) | (go_at_call 51; (with_reducible refine (fail_true _ _).mono ?_); rintro e w2 ⟨rfl, rfl⟩))
                exact ⟨rfl, by rw [hz.out, if_neg (by decide)], (hbel.out.alloc hsz _).trans (HB1.out.mono (by omega))⟩
          · skip
            by_cases q3 : f1 = 3
            · subst q3
              cases f2 with
              | false =>
                have hz := HF.out false (by unfold badB; rw [d0]; simp)
                rw [if_neg (by decide)] at hz
                clear HF
                go_wp2_with (first | (go_at_call 62; (with_reducible refine HV.out.mono ?_); rintro e w1 ⟨rfl, hb1⟩; have HB1 := Aside0.mk hb1; have e0 := (bcell hb1 (b := wr.heap.size) (o := 0) (by omega)).trans (show _ = some (.int .i64 f0) by simp [go_sem]); have e1 := (bcell hb1 (b := wr.heap.size) (o := 1) (by omega)).trans (show _ = some (.int .i64 3) by simp [go_sem]); have e2 := (bcell hb1 (b := wr.heap.size) (o := 2) (by omega)).trans (show _ = some (.bool false) by simp [go_sem]); have e3 := (bcell hb1 (b := wr.heap.size) (o := 3) (by omega)).trans (show _ = some (.slice A3 f3.length c3) by simp [go_sem]); clear hb1) | (go_at_call 51; (with_reducible refine (fail_false _ _).mono ?_); rintro e w2 ⟨rfl, rfl⟩))
                exact ⟨⟨k + 1, f0, by omega, by first | rfl | simp, rfl, ⟨(hbel.out.alloc hsz _).trans (HB1.out.mono (by omega))⟩, hz⟩, by simp [intOf]; omega⟩
              | true =>
                by_cases ql : f3.length = 1
                · have hz := HF.out false (by unfold badB; rw [d0, decide_eq_true ql]; simp)
                  rw [if_neg (by decide)] at hz
                  have l0 : ((f3.length : Int) != 1) = false := by simp; omega
                  have l1 : decide (f3.length = 1) = true := decide_eq_true ql
                  clear HF ql
                  go_wp2_with (first | (go_at_call 62; (with_reducible refine HV.out.mono ?_); rintro e w1 ⟨rfl, hb1⟩; have HB1 := Aside0.mk hb1; have e0 := (bcell hb1 (b := wr.heap.size) (o := 0) (by omega)).trans (show _ = some (.int .i64 f0) by simp [go_sem]); have e1 := (bcell hb1 (b := wr.heap.size) (o := 1) (by omega)).trans (show _ = some (.int .i64 3) by simp [go_sem]); have e2 := (bcell hb1 (b := wr.heap.size) (o := 2) (by omega)).trans (show _ = some (.bool true) by simp [go_sem]); have e3 := (bcell hb1 (b := wr.heap.size) (o := 3) (by omega)).trans (show _ = some (.slice A3 f3.length c3) by simp [go_sem]); clear hb1) | (go_at_call 51; (with_reducible refine (fail_false _ _).mono ?_); rintro e w2 ⟨rfl, rfl⟩))
                  exact ⟨⟨k + 1, f0, by omega, by first | rfl | simp, rfl, ⟨(hbel.out.alloc hsz _).trans (HB1.out.mono (by omega))⟩, hz⟩, by simp [intOf]; omega⟩
                · have hz := HF.out true (by unfold badB; rw [d0, decide_eq_false ql]; simp)
                  rw [if_pos rfl] at hz
                  have l0 : ((f3.length : Int) != 1) = true := by simp; omega
                  have l1 : decide (f3.length = 1) = false := decide_eq_false ql
                  clear HF ql
                  go_wp2_with (first | (go_at_call 62; (with_reducible refine HV.out.mono ?_); rintro e w1 ⟨rfl, hb1⟩; have HB1 := Aside0.mk hb1; have e0 := (bcell hb1 (b := wr.heap.size) (o := 0) (by omega)).trans (show _ = some (.int .i64 f0) by simp [go_sem]); have e1 := (bcell hb1 (b := wr.heap.size) (o := 1) (by omega)).trans (show _ = some (.int .i64 3) by simp [go_sem]); have e2 := (bcell hb1 (b := wr.heap.size) (o := 2) (by omega)).trans (show _ = some (.bool true) by simp [go_sem]); have e3 := (bcell hb1 (b := wr.heap.size) (o := 3) (by omega)).trans (show _ = some (.slice A3 f3.length c3) by simp [go_sem]); clear hb1) | (go_at_call 51; (with_reducible refine (fail_true _ _).mono ?_); rintro e w2 ⟨rfl, rfl⟩))
                  exact ⟨rfl, by rw [hz.out, if_neg (by decide)], (hbel.out.alloc hsz _).trans (HB1.out.mono (by omega))⟩
            · skip
              by_cases q4 : f1 = 4
              · subst q4
                cases f2 with
                | false =>
                  have hz := HF.out false (by unfold badB; rw [d0]; simp)
                  rw [if_neg (by decide)] at hz
                  clear HF
                  go_wp2_with (first | (go_at_call 62; (with_reducible refine HV.out.mono ?_); rintro e w1 ⟨rfl, hb1⟩; have HB1 := Aside0.mk hb1; have e0 := (bcell hb1 (b := wr.heap.size) (o := 0) (by omega)).trans (show _ = some (.int .i64 f0) by simp [go_sem]); have e1 := (bcell hb1 (b := wr.heap.size) (o := 1) (by omega)).trans (show _ = some (.int .i64 4) by simp [go_sem]); have e2 := (bcell hb1 (b := wr.heap.size) (o := 2) (by omega)).trans (show _ = some (.bool false) by simp [go_sem]); have e3 := (bcell hb1 (b := wr.heap.size) (o := 3) (by omega)).trans (show _ = some (.slice A3 f3.length c3) by simp [go_sem]); clear hb1) | (go_at_call 51; (with_reducible refine (fail_false _ _).mono ?_); rintro e w2 ⟨rfl, rfl⟩))
                  exact ⟨⟨k + 1, f0, by omega, by first | rfl | simp, rfl, ⟨(hbel.out.alloc hsz _).trans (HB1.out.mono (by omega))⟩, hz⟩, by simp [intOf]; omega⟩
                | true =>
                  by_cases ql : f3.length = 1
                  · have hz := HF.out false (by unfold badB; rw [d0, decide_eq_true ql]; simp)
                    rw [if_neg (by decide)] at hz
                    have l0 : ((f3.length : Int) != 1) = false := by simp; omega
                    have l1 : decide (f3.length = 1) = true := decide_eq_true ql
                    clear HF ql
                    go_wp2_with (first | (go_at_call 62; (with_reducible refine HV.out.mono ?_); rintro e w1 ⟨rfl, hb1⟩; have HB1 := Aside0.mk hb1; have e0 := (bcell hb1 (b := wr.heap.size) (o := 0) (by omega)).trans (show _ = some (.int .i64 f0) by simp [go_sem]); have e1 := (bcell hb1 (b := wr.heap.size) (o := 1) (by omega)).trans (show _ = some (.int .i64 4) by simp [go_sem]); have e2 := (bcell hb1 (b := wr.heap.size) (o := 2) (by omega)).trans (show _ = some (.bool true) by simp [go_sem]); have e3 := (bcell hb1 (b := wr.heap.size) (o := 3) (by omega)).trans (show _ = some (.slice A3 f3.length c3) by simp [go_sem]); clear hb1) | (go_at_call 51; (with_reducible refine (fail_false _ _).mono ?_); rintro e w2 ⟨rfl, rfl⟩))
                    exact ⟨⟨k + 1, f0, by omega, by first | rfl | simp, rfl, ⟨(hbel.out.alloc hsz _).trans (HB1.out.mono (by omega))⟩, hz⟩, by simp [intOf]; omega⟩
                  · have hz := HF.out true (by unfold badB; rw [d0, decide_eq_false ql]; simp)
                    rw [if_pos rfl] at hz
                    have l0 : ((f3.length : Int) != 1) = true := by simp; omega
                    have l1 : decide (f3.length = 1) = false := decide_eq_false ql
                    clear HF ql
                    go_wp2_with (first | (go_at_call 62; (with_reducible refine HV.out.mono ?_); rintro e w1 ⟨rfl, hb1⟩; have HB1 := Aside0.mk hb1; have e0 := (bcell hb1 (b := wr.heap.size) (o := 0) (by omega)).trans (show _ = some (.int .i64 f0) by simp [go_sem]); have e1 := (bcell hb1 (b := wr.heap.size) (o := 1) (by omega)).trans (show _ = some (.int .i64 4) by simp [go_sem]); have e2 := (bcell hb1 (b := wr.heap.size) (o := 2) (by omega)).trans (show _ = some (.bool true) by simp [go_sem]); have e3 := (bcell hb1 (b := wr.heap.size) (o := 3) (by omega)).trans (show _ = some (.slice A3 f3.length c3) by simp [go_sem]); clear hb1) | (go_at_call 51; (with_reducible refine (fail_true _ _).mono ?_); rintro e w2 ⟨rfl, rfl⟩))
                    exact ⟨rfl, by rw [hz.out, if_neg (by decide)], (hbel.out.alloc hsz _).trans (HB1.out.mono (by omega))⟩
              · skip
                have hz := HF.out true (by unfold badB; rw [d0]; simp [q2, q3, q4])
                rw [if_pos rfl] at hz
                have k2 : (f1 != 2) = true := by simp [q2]
                have k3 : (f1 != 3) = true := by simp [q3]
                have k4 : (f1 != 4) = true := by simp [q4]
                clear HF
                go_wp2_with (first | (go_at_call 62; (with_reducible refine HV.out.mono ?_); rintro e w1 ⟨rfl, hb1⟩; have HB1 := Aside0.mk hb1; have e0 := (bcell hb1 (b := wr.heap.size) (o := 0) (by omega)).trans (show _ = some (.int .i64 f0) by simp [go_sem]); have e1 := (bcell hb1 (b := wr.heap.size) (o := 1) (by omega)).trans (show _ = some (.int .i64 f1) by simp [go_sem]); have e2 := (bcell hb1 (b := wr.heap.size) (o := 2) (by omega)).trans (show _ = some (.bool f2) by simp [go_sem]); have e3 := (bcell hb1 (b := wr.heap.size) (o := 3) (by omega)).trans (show _ = some (.slice A3 f3.length c3) by simp [go_sem]); clear hb1) | (go_at_call 51; (with_reducible refine (fail_true _ _).mono ?_); rintro e w2 ⟨rfl, rfl⟩))
                exact ⟨rfl, by rw [hz.out, if_neg (by decide)], (hbel.out.alloc hsz _).trans (HB1.out.mono (by omega))⟩
      · have HV := Aside0.mk (valid1_bad (Kd.C_alloc HG.out (.cells #[.int .i64 x.f0, .int .i64 x.f1, .bool x.f2, .slice A3 x.f3.length c3] 34)) hc3 (g := wr.heap.size + 1) (by simp) _ rfl hch)
        have hz := Aside0.mk (show checkL x.f3 = Z by have := hrest2.out; rw [bindL, if_neg hch] at this; exact this)
        have hzn := Aside0.mk hch
        generalize checkL x.f3 = z at HV hz hzn
        clear hch hrest2
        go_wp2_with (first | (go_at_call 62; (with_reducible refine HV.out.mono ?_); rintro e w1 ⟨rfl, hb1⟩))
        exact ⟨rfl, by rw [← hz.out, if_neg hzn.out], ((hbel.out.alloc hsz _).trans (hb1.mono (by omega)))⟩
    · have hke : k = ls.length := by omega
      have hz : Z = 0 := by rw [← hrest.out, List.drop_of_length_le (by omega)]; rfl
      have HZ0 := Aside0.mk hz
      clear hz
      go_wp2
      go_end0
      exact ⟨by rw [HZ0.out, if_pos rfl], hbel.out⟩
end Go.Proofs.YtgkebfeggekkgaaDoor.Given
