/- The contract of Parents. -/
import Derived.Test.YtgkebfeggekkgaaDoorHm
set_option linter.unusedVariables false
set_option linter.unusedSimpArgs false
namespace Go.Proofs.YtgkebfeggekkgaaDoor.Given
open Go.RowKit Go.Proofs.YtgkebfeggekkgaaDoor.PT Go.Proofs.YtgkebfeggekkgaaDoorW.PrintWords Go.Proofs.YtgkebfeggekkgaaDoorW.PrintLast Go.Proofs.YtgkebfeggekkgaaDoorW.PrintMore

/-- one pattern looked at: the best so far; none where it is there twice -/
def parStep (ls : List (List S31)) (p : List S31) (i k : Nat) (q : List S31) (best : Int) : Option Int :=
  if k = i ∨ conformsB p q = false then some best
  else if p.length = q.length then none
  else if best < 0 ∨ (rd_L5 ls best).length < q.length then some k else some best
def parLoop (ls : List (List S31)) (p : List S31) (i : Nat) : Nat → List (List S31) → Int → Option Int
  | _, [], best => some best
  | k, q :: r, best => match parStep ls p i k q best with
    | none => none
    | some b => parLoop ls p i (k + 1) r b
def parRows (ls : List (List S31)) : Nat → List (List S31) → Option (List Int)
  | _, [] => some []
  | i, p :: r => match parLoop ls p i 0 ls (-1) with
    | none => none
    | some b => (parRows ls (i + 1) r).map (b :: ·)
def parentsF (ls : List (List S31)) : List Int × Int :=
  if 500 < ls.length then ([], 2) else if validL ls = 0 then (match parRows ls 0 ls with | some l => (l, 0) | none => ([], 6)) else ([], validL ls)
theorem res40 : DoorResults Tryd.f40 2 3 := by
  intro t W g x u h2 h3 c0 c1
  have hu37 := Tryd.underlying37
  have hu25 := Tryd.underlying25
  have e2 : t[2]?.getD undef = .pointer (some ⟨g, 0, none⟩) := by simpa [Array.getD_eq_getD_getElem?] using h2
  have e3 : t[3]?.getD undef = .pointer (some ⟨g + 1, 0, none⟩) := by simpa [Array.getD_eq_getD_getElem?] using h3
  simp [results, Tryd.results40, go_sem, e2, e3, c0, c1]
/-- the world while the parents are found -/
def OW (w W : World) (v : Value) (xs : List Int) : Prop := Rd w.heap.size w W v (.int .i64 0) ∧ Kd.R kI 3 W (w.heap.size + 1 + 1) (fun _ => True) v xs ∧ w.heap.size + 1 + 1 ≤ W.heap.size
theorem OW.keep {w W W' : World} {v : Value} {xs : List Int} (h : OW w W v xs) (hb : Below W.heap.size W W') : OW w W' v xs :=
  ⟨h.1.keep hb (Nat.le_refl _), Kd.R_below h.2.1 hb, Nat.le_trans h.2.2 hb.size⟩
theorem OW.set {w W W' : World} {v v' : Value} {xs ys : List Int} (h : OW w W v xs) (hb : Below (w.heap.size + 1 + 1) W W') (hR : Kd.R kI 3 W' (w.heap.size + 1 + 1) (fun _ => True) v' ys) : OW w (W'.setCell ⟨w.heap.size, 0, none⟩ v') v' ys := by
  obtain ⟨h1, h3, h4⟩ := h
  have hrd : Rd w.heap.size w W' v (.int .i64 0) := h1.keep2 (hb.mono (by omega))
  refine ⟨hrd.set0 v', ?_, ?_⟩
  · have h1 := Kd.R_bound hR
    exact Kd.R_mono (Kd.R_far h1 (p := ⟨w.heap.size, 0, none⟩) (fun k hk => by have := hk.2.1; simp only; omega) v') (fun _ _ => trivial)
  · have := hb.size
    simp
    omega
theorem R_storedI1 {w W : World} {base : Nat} {v x u : Value} {l : List Int} (h : Kd.R kI 3 W base (fun _ => True) v l) (hb : w.heap.size + 2 ≤ base) :
    Kd.R kI 3 ((W.setCell ⟨w.heap.size, 0, none⟩ x).setCell ⟨w.heap.size + 1, 0, none⟩ u) w.heap.size (fun _ => True) v l := by
  have h1 := Kd.R_bound h
  have h2 := Kd.R_far h1 (p := ⟨w.heap.size, 0, none⟩) (fun k hk => by have := hk.2.1; simp only; omega) x
  have h3 := Kd.R_far h2 (p := ⟨w.heap.size + 1, 0, none⟩) (fun k hk => by have := hk.2.1; simp only; omega) u
  exact Kd.R_lower (Kd.R_mono h3 (fun _ _ => trivial)) (by omega)
theorem OW.start {w W : World} (h : Below (w.heap.size + 2) (wD (.slice none 0 0) 37 w) W) : OW w W (.slice none 0 0) [] :=
  ⟨Rd_of h, Kd.R_nil _ _ _ _ _, by have := h.size; rw [wD_size] at this; omega⟩
theorem info3 : (Tryd.prog.info? 3).map (fun i => (i.zero, i.size, i.bytes)) = some (some (.int .i64 0), 1, 8) := by kernel_rfl
set_option maxRecDepth 100000 in
set_option maxHeartbeats 1000000 in
theorem parents_long (A : Option Addr) (c : Nat) (ls : List (List S31)) (w : World) (h : 500 < ls.length) : Calls Tryd.prog 40 #[.slice A ls.length c] w (IntsPost w [] 2) := by
  have HV := Aside0.mk (Rd_of (Below.refl _ (wD (.slice none 0 0) 37 w)))
  have hd : decide (500 < ls.length) = true := decide_eq_true h
  have hd2 : decide ((500 : Int) < (ls.length : Int)) = true := decide_eq_true (by omega)
  clear h
  go_enter_defers Tryd.func40, Tryd.ntmps40
  go_wp2_with (first | (go_at_call 51; (with_reducible refine (fail_true _ _).mono ?_); rintro e w1 ⟨rfl, rfl⟩))
  exact door_fails (fn := Tryd.f40) (p := 2) (q := 3) gin57 guardInts_fails res40 (fun w' hb => ⟨_, rfl, Kd.R_nil _ _ _ _ _, hb⟩) (Nat.le_refl _) HV.out rfl rfl rfl
set_option maxRecDepth 100000 in
set_option maxHeartbeats 1000000 in
theorem parents_bad (A : Option Addr) (c : Nat) (ls : List (List S31)) (w : World) (hr : Kd.C (Kd.slice 31 k31) w A ls.length ls) (hc : ls.length ≤ c) (h : ls.length ≤ 500) (z : Int) (hz : validL ls = z) (h0 : ¬ z = 0) : Calls Tryd.prog 40 #[.slice A ls.length c] w (IntsPost w [] z) := by
  have HV : Aside0 (Calls Tryd.prog 62 #[.slice A ls.length c] ((w.alloc (.cells #[.slice none 0 0] 37)).alloc (.cells #[.int .i64 0] 25)) fun e w' => e = .panicked (failE z) ∧ Rd w.heap.size w w' (.slice none 0 0) (.int .i64 0)) :=
    ⟨(valid_bad A c ls _ (Kd.C_below hr (wD_below (.slice none 0 0) 37 w)) hc z hz h0).mono fun e w' ⟨h1, h2⟩ => ⟨h1, Rd_of (t := 37) (h2.mono (by simp [wD]))⟩⟩
  have hd : decide (500 < ls.length) = false := decide_eq_false (by omega)
  have hd2 : decide ((500 : Int) < (ls.length : Int)) = false := decide_eq_false (by omega)
  clear h hz h0 hr
  go_enter_defers Tryd.func40, Tryd.ntmps40
  go_wp2_with (first | (go_at_call 51; (with_reducible refine (fail_false _ _).mono ?_); rintro e w1 ⟨rfl, rfl⟩) | (go_at_call 62; (with_reducible refine HV.out.mono ?_); rintro e w2 ⟨rfl, hb2⟩; have HB2 := Aside0.mk hb2; clear hb2))
  exact door_fails (fn := Tryd.f40) (p := 2) (q := 3) gin57 guardInts_fails res40 (fun w' hb => ⟨_, rfl, Kd.R_nil _ _ _ _ _, hb⟩) (Nat.le_refl _) HB2.out rfl rfl rfl
def ParPost (r : Option (List Int)) (w : World) (e : Ending) (w' : World) : Prop := match r with | some l => IntsPost w l 0 e w' | none => IntsPost w [] 6 e w'
theorem rows_step {ls : List (List S31)} {i : Nat} (hi : i < ls.length) {xs : List Int} (h : parRows ls 0 ls = (parRows ls i (ls.drop i)).map (xs ++ ·)) :
    (parLoop ls ls[i] i 0 ls (-1) = none → parRows ls 0 ls = none) ∧ ∀ x, parLoop ls ls[i] i 0 ls (-1) = some x → parRows ls 0 ls = (parRows ls (i + 1) (ls.drop (i + 1))).map ((xs ++ [x]) ++ ·) := by
  rw [List.drop_eq_getElem_cons hi, parRows] at h
  constructor
  · intro hn
    rw [hn] at h
    exact h
  · intro x hx
    rw [hx] at h
    rw [h]
    cases parRows ls (i + 1) (ls.drop (i + 1)) with
    | none => rfl
    | some r => simp
theorem loop_step {ls : List (List S31)} {p : List S31} {i k : Nat} (hk : k < ls.length) {best : Int} {r : Option Int} (h : r = parLoop ls p i k (ls.drop k) best) :
    (parStep ls p i k ls[k] best = none → r = none) ∧ ∀ b, parStep ls p i k ls[k] best = some b → r = parLoop ls p i (k + 1) (ls.drop (k + 1)) b := by
  rw [List.drop_eq_getElem_cons hk, parLoop] at h
  constructor
  · intro hn
    rw [hn] at h
    exact h
  · intro x hx
    rw [hx] at h
    exact h
theorem valid_each : ∀ (ls : List (List S31)), validL ls = 0 → ∀ l ∈ ls, checkL l = 0
  | [], _, l, h => by cases h
  | x :: r, hz, l, h => by
    rw [validL] at hz
    split at hz
    · rename_i hx
      rcases List.mem_cons.1 h with rfl | h
      · exact hx
      · exact valid_each r hz l h
    · rename_i hx
      exact absurd hz hx
set_option maxRecDepth 100000 in
set_option maxHeartbeats 4000000 in
theorem parents_walk (A : Option Addr) (c : Nat) (ls : List (List S31)) (w : World) (hr : Kd.C (Kd.slice 31 k31) w A ls.length ls) (hc : ls.length ≤ c) (h : ls.length ≤ 500) (hz : validL ls = 0) : Calls Tryd.prog 40 #[.slice A ls.length c] w (ParPost (parRows ls 0 ls) w) := by
  have HV : Aside0 (Calls Tryd.prog 62 #[.slice A ls.length c] ((w.alloc (.cells #[.slice none 0 0] 37)).alloc (.cells #[.int .i64 0] 25)) fun e w' => e = .returned (.tuple #[]) ∧ OW w w' (.slice none 0 0) []) :=
    ⟨(valid_ok A c ls _ (Kd.C_below hr (wD_below (.slice none 0 0) 37 w)) hc hz).mono fun e w' ⟨h1, h2⟩ => ⟨h1, OW.start (h2.mono (by simp [wD]))⟩⟩
  have hd : decide (500 < ls.length) = false := decide_eq_false (by omega)
  have hd2 : decide ((500 : Int) < (ls.length : Int)) = false := decide_eq_false (by omega)
  have HR := Aside0.mk hr
  have HCK := Aside0.mk (valid_each ls hz)
  have hu37 := Tryd.underlying37
  have hu25 := Tryd.underlying25
  have hu24 := Tryd.underlying24
  clear hz hr
  go_enter_defers Tryd.func40, Tryd.ntmps40
  go_wp2_with (first | (go_at_call 51; (with_reducible refine (fail_false _ _).mono ?_); rintro e w1 ⟨rfl, rfl⟩) | (go_at_call 62; (with_reducible refine HV.out.mono ?_); rintro e w2 ⟨rfl, hb2⟩; have HB2 := Aside0.mk hb2; clear hb2))
  go_loopw [17] (fun i W => ∃ (k : Nat) (v : Value) (xs : List Int), k ≤ ls.length ∧ i = .int .i64 k ∧ Aside0 (OW w W v xs) ∧ Aside0 (xs.length = k) ∧ Aside0 (parRows ls 0 ls = (parRows ls k (ls.drop k)).map (xs ++ ·))) (fun i _ => ls.length - (intOf i).toNat)
  case atStart => exact ⟨0, .slice none 0 0, [], Nat.zero_le _, rfl, HB2, ⟨rfl⟩, ⟨by rw [List.drop_zero]; cases parRows ls 0 ls <;> simp⟩⟩
  case round =>
    obtain ⟨i, v, xs, hk, rfl, hOW, hxl, hrows⟩ := hrel
    by_cases hlt : i < ls.length
    · obtain ⟨ad, A0, c0, rfl, hx, hc0, hg⟩ := at_L5 (Kd.C_below HR.out hOW.out.1.1) (i : Int) (by omega) (by omega)
      rw [Int.toNat_natCast] at hx
      have hst := rows_step hlt hrows.out
      have hrd := rd5 ls i hlt
      have hp40 := checkL_small (HCK.out ls[i] (List.getElem_mem _))
      rw [← hrd] at hst hp40
      generalize rd_L5 ls (i : Int) = p at hx hc0 hg hst hp40
      have HST := Aside0.mk hst
      have HPC := Aside0.mk hg
      have HP40 := Aside0.mk hp40
      clear hst hg hrd hrows hp40
      go_wp2_with (fail)
      obtain ⟨wo, hwo⟩ : ∃ wo : World, wo = wr := ⟨_, rfl⟩
      subst hwo
      go_loopw [6, 24] (fun b j W => ∃ (k : Nat) (best : Int), k ≤ ls.length ∧ j = .int .i64 k ∧ b = .int .i64 best ∧ -1 ≤ best ∧ best < ls.length ∧ Aside0 (Below wo.heap.size wo W) ∧ Aside0 (parLoop ls p i 0 ls (-1) = parLoop ls p i k (ls.drop k) best)) (fun _ j _ => ls.length - (intOf j).toNat)
      case atStart => exact ⟨0, -1, Nat.zero_le _, rfl, rfl, by omega, by omega, ⟨Below.refl _ _⟩, ⟨by rw [List.drop_zero]⟩⟩
      case round =>
        obtain ⟨k, best, hk2, rfl, rfl, hb0, hb1, hbel, hloop⟩ := hrel
        have HOWr := Aside0.mk (hOW.out.keep hbel.out)
        by_cases hlt2 : k < ls.length
        · obtain ⟨ad2, A1, c1, hadeq, hx1, hc1, hg1⟩ := at_L5 (Kd.C_below HR.out HOWr.out.1.1) (k : Int) (by omega) (by omega)
          obtain rfl : ad = ad2 := by simpa using hadeq
          rw [Int.toNat_natCast] at hx1
          have hls := loop_step hlt2 hloop.out
          have hrd2 := rd5 ls k hlt2
          rw [← hrd2] at hls
          generalize rd_L5 ls (k : Int) = q at hx1 hc1 hg1 hls
          have HLS := Aside0.mk hls
          have HCF := Aside0.mk (conforms_calls A0 c0 p A1 c1 q wr (Kd.C_below HPC.out hbel.out) hc0 hg1 hc1 HP40.out)
          clear hls hg1 hrd2 hloop hadeq
          by_cases hki : k = i
          · have HL := Aside0.mk (HLS.out.2 best (by unfold parStep; rw [if_pos (.inl hki)]))
            have e1 : ((k : Int) == (i : Int)) = true := by rw [beq_iff_eq, hki]
            have e2 : (k == i) = true := by rw [beq_iff_eq, hki]
            clear hki
            go_wp2_with (fail)
            exact ⟨⟨k + 1, best, by omega, by first | rfl | simp, rfl, by omega, by omega, hbel, HL⟩, by simp [intOf]; omega⟩
          · have e1 : ((k : Int) == (i : Int)) = false := by rw [beq_eq_false_iff_ne]; omega
            have e2 : (k == i) = false := by rw [beq_eq_false_iff_ne]; omega
            have HKI := Aside0.mk hki
            clear hki
            cases hcf : conformsB p q with
            | false =>
              have HL := Aside0.mk (HLS.out.2 best (by unfold parStep; rw [if_pos (.inr hcf)]))
              rw [hcf] at HCF
              clear hcf
              go_wp2_with (first | (go_at_call 54; (with_reducible refine HCF.out.mono ?_); rintro e w1 ⟨rfl, hb1⟩; have HB1 := Aside0.mk (hbel.out.trans (hb1.below.mono hbel.out.size)); clear hb1))
              exact ⟨⟨k + 1, best, by omega, by first | rfl | simp, rfl, by omega, by omega, HB1, HL⟩, by simp [intOf]; omega⟩
            | true =>
              have hno : ¬ (k = i ∨ conformsB p q = false) := by
                rintro (h | h)
                · exact HKI.out h
                · rw [hcf] at h
                  cases h
              have HNO := Aside0.mk hno
              rw [hcf] at HCF
              clear hcf hno
              by_cases hle : p.length = q.length
              · have HX := Aside0.mk (HST.out.1 (HLS.out.1 (by unfold parStep; rw [if_neg HNO.out, if_pos hle])))
                have l1 : ((p.length : Int) == (q.length : Int)) = true := by rw [beq_iff_eq, hle]
                have l2 : (p.length == q.length) = true := by rw [beq_iff_eq, hle]
                clear hle
                go_wp2_with (first | (go_at_call 54; (with_reducible refine HCF.out.mono ?_); rintro e w1 ⟨rfl, hb1⟩; have HB1 := Aside0.mk (hbel.out.trans (hb1.below.mono hbel.out.size)); clear hb1) | (go_at_call 51; (with_reducible refine (fail_true _ _).mono ?_); rintro e w4 ⟨rfl, rfl⟩))
                rw [HX.out]
                exact door_fails (fn := Tryd.f40) (p := 2) (q := 3) gin57 guardInts_fails res40 (fun w' hb => ⟨_, rfl, Kd.R_nil _ _ _ _ _, hb⟩) (Nat.le_refl _) (hOW.out.keep HB1.out).1 rfl rfl rfl
              · have l1 : ((p.length : Int) == (q.length : Int)) = false := by rw [beq_eq_false_iff_ne]; omega
                have l2 : (p.length == q.length) = false := by rw [beq_eq_false_iff_ne]; omega
                have HLE := Aside0.mk hle
                clear hle
                by_cases hb : best < 0
                · have HL := Aside0.mk (HLS.out.2 k (by unfold parStep; rw [if_neg HNO.out, if_neg HLE.out, if_pos (.inl hb)]))
                  have m1 : decide (best < 0) = true := decide_eq_true hb
                  go_wp2_with (first | (go_at_call 54; (with_reducible refine HCF.out.mono ?_); rintro e w1 ⟨rfl, hb1⟩; have HB1 := Aside0.mk (hbel.out.trans (hb1.below.mono hbel.out.size)); clear hb1) | (go_at_call 51; (with_reducible refine (fail_false _ _).mono ?_); rintro e w4 ⟨rfl, rfl⟩))
                  exact ⟨⟨k + 1, k, by omega, by first | rfl | simp, rfl, by omega, by omega, HB1, HL⟩, by simp [intOf]; omega⟩
                · have m1 : decide (best < 0) = false := decide_eq_false hb
                  obtain ⟨bn, hbn⟩ : ∃ bn : Nat, best = bn := ⟨best.toNat, by omega⟩
                  subst hbn
                  have hbl : bn < ls.length := by omega
                  have HBEST : Aside0 (∀ W, Below wo.heap.size wo W → ∃ A2 c2, W.cell? (ad.add bn) = some (.slice A2 (rd_L5 ls (bn : Int)).length c2)) := ⟨fun W hbW => by
                    obtain ⟨ad3, A2, c2, he3, hx2, _, _⟩ := at_L5 (Kd.C_below HR.out ((hOW.out.keep hbW).1.1)) (bn : Int) (by omega) (by omega)
                    obtain rfl : ad = ad3 := by simpa using he3
                    rw [Int.toNat_natCast] at hx2
                    exact ⟨A2, c2, hx2⟩⟩
                  have HSTP := Aside0.mk (show parStep ls p i k q (bn : Int) = if (rd_L5 ls (bn : Int)).length < q.length then some (k : Int) else some (bn : Int) by
                    unfold parStep
                    rw [if_neg HNO.out, if_neg HLE.out]
                    by_cases hh : (rd_L5 ls (bn : Int)).length < q.length
                    · rw [if_pos (.inr hh), if_pos hh]
                    · rw [if_neg (by rintro (h | h); omega; exact hh h), if_neg hh])
                  generalize (rd_L5 ls (bn : Int)).length = BL at HBEST HSTP
                  by_cases hh : BL < q.length
                  · have HL := Aside0.mk (HLS.out.2 k (by rw [HSTP.out, if_pos hh]))
                    have g1 : decide (BL < q.length) = true := decide_eq_true hh
                    have g2 : decide ((BL : Int) < (q.length : Int)) = true := decide_eq_true (by omega)
                    clear hh
                    go_wp2_with (first | (go_at_call 54; (with_reducible refine HCF.out.mono ?_); rintro e w1 ⟨rfl, hb1⟩; have HB1 := Aside0.mk (hbel.out.trans (hb1.below.mono hbel.out.size)); obtain ⟨A2, c2, hx2⟩ := HBEST.out w1 HB1.out; clear hb1) | (go_at_call 51; (with_reducible refine (fail_false _ _).mono ?_); rintro e w4 ⟨rfl, rfl⟩))
                    exact ⟨⟨k + 1, k, by omega, by first | rfl | simp, rfl, by omega, by omega, HB1, HL⟩, by simp [intOf]; omega⟩
                  · have HL := Aside0.mk (HLS.out.2 (bn : Int) (by rw [HSTP.out, if_neg hh]))
                    have g1 : decide (BL < q.length) = false := decide_eq_false hh
                    have g2 : decide ((BL : Int) < (q.length : Int)) = false := decide_eq_false (by omega)
                    clear hh
                    go_wp2_with (first | (go_at_call 54; (with_reducible refine HCF.out.mono ?_); rintro e w1 ⟨rfl, hb1⟩; have HB1 := Aside0.mk (hbel.out.trans (hb1.below.mono hbel.out.size)); obtain ⟨A2, c2, hx2⟩ := HBEST.out w1 HB1.out; clear hb1) | (go_at_call 51; (with_reducible refine (fail_false _ _).mono ?_); rintro e w4 ⟨rfl, rfl⟩))
                    exact ⟨⟨k + 1, bn, by omega, by first | rfl | simp, rfl, by omega, by omega, HB1, HL⟩, by simp [intOf]; omega⟩
        · have hfin := hloop.out
          rw [List.drop_of_length_le (by omega)] at hfin
          have HROW := Aside0.mk (HST.out.2 best hfin)
          obtain ⟨A6, c6, rfl, hc6, hC6⟩ := Kd.R_reads HOWr.out.2.1
          have hz0 := HOWr.out.2.2
          obtain ⟨_, y0, y1, y2, y3⟩ := HOWr.out.1
          have HLN := Aside0.mk (show xs.length ≤ 500 by have := hxl.out; omega)
          clear hfin hloop hC6
          go_wp2_with (first | ((with_reducible refine gate_builtin (b := .append) (xs := #[.tmp 58, .tmp 60]) rfl ?_); at_builtin; refine Kd.R_append kI (w0 := wr) (w.heap.size + 1 + 1) rfl (.tmp 58) (.tmp 60) 37 3 (.int .i64 0) 8 rfl Tryd.underlying37 info3 rfl (by decide) (by omega) (.slice A6 xs.length c6) xs best [.int .i64 best] (fun _ => True) (fun _ => False) rfl (Eq.trans (b := Value.slice (some ⟨wr.heap.size, 0, none⟩) 1 1) rfl (by simp)) ?aP (fun _ hk => hk.elim) ?aF ?aO ?aB ?aS ?aL ?_; (case aP => exact rfl); (case aB => exact Below.refl _ _); (case aF => exact (fun _ _ => trivial)); (case aO => exact HOWr.out.2.1); (case aS => omega); (case aL => have := HLN.out; omega); intro v1 w9 ho hb hg hat; obtain ⟨A9, c9, rfl, hc9, hC9⟩ := Kd.R_reads ho; have HO := Aside0.mk ho; have HB9 := Aside0.mk hb; obtain ⟨_, z0, z1, z2, z3⟩ := HOWr.out.1.keep2 (hb.mono (by omega)); clear ho hb hg hat hC9 hc9))
          exact ⟨⟨i + 1, _, xs ++ [best], by omega, by first | rfl | simp, ⟨HOWr.out.set HB9.out (by have h := HO.out; rw [List.length_append] at h; exact h)⟩, ⟨by rw [List.length_append, hxl.out]; rfl⟩, HROW⟩, by simp [intOf]; omega⟩
    · have hfin := hrows.out
      rw [List.drop_of_length_le (by omega)] at hfin
      have HYES := Aside0.mk (show parRows ls 0 ls = some xs by rw [hfin]; simp [parRows])
      obtain ⟨A6, c6, rfl, hc6, hC6⟩ := Kd.R_reads hOW.out.2.1
      obtain ⟨_, y0, y1, y2, y3⟩ := hOW.out.1
      clear hC6 hfin hrows
      go_wp2_with (fail)
      rw [HYES.out]
      exact door_stored' (fn := Tryd.f40) (p := 2) (q := 3) gin57 guardInts_idle res40 hOW.out.1 (fun hb => ⟨_, rfl, R_storedI1 hOW.out.2.1 (by omega), hb⟩) rfl rfl rfl
def pattern_Parents.f (ls : List (List S31)) : Option (List Int × Int) := some (parentsF ls)
theorem pattern_Parents.calls (A0 : Option Addr) (c0 : Nat) (l0 : List (List S31)) (r1 : List Int) (r2 : Int) (w : World) (hr0 : Kd.C (Kd.slice 31 k31) w A0 l0.length l0) (hc0 : l0.length ≤ c0) (h : pattern_Parents.f l0 = some (r1, r2)) :
    Calls Tryd.prog 40 #[.slice A0 l0.length c0] w fun e w' => ∃ v0_ : Value, e = .returned (.tuple #[v0_, .int .i64 r2]) ∧ Kd.R (Kd.int .i64) 3 w' w.heap.size (fun _ => True) v0_ r1 ∧ Below w.heap.size w w' := by
  unfold pattern_Parents.f at h
  have h' : parentsF l0 = (r1, r2) := Option.some.inj h
  unfold parentsF at h'
  by_cases h5 : 500 < l0.length
  · rw [if_pos h5] at h'
    cases h'
    exact parents_long A0 c0 l0 w h5
  · rw [if_neg h5] at h'
    by_cases hz : validL l0 = 0
    · rw [if_pos hz] at h'
      have hw := parents_walk A0 c0 l0 w hr0 hc0 (by omega) hz
      cases hp : parRows l0 0 l0 with
      | none => rw [hp] at h' hw; cases h'; exact hw
      | some l => rw [hp] at h' hw; cases h'; exact hw
    · rw [if_neg hz] at h'
      cases h'
      exact parents_bad A0 c0 l0 w hr0 hc0 (by omega) _ rfl hz
end Go.Proofs.YtgkebfeggekkgaaDoor.Given
