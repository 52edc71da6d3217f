/- The contract of Furthest: what the bindings make of the first one. -/
import Derived.Test.YtgkebfeggekkgaaDoorHg
set_option linter.unusedVariables false
set_option linter.unusedSimpArgs false
namespace Go.Proofs.YtgkebfeggekkgaaDoor.Given
open Go.RowKit Go.Proofs.YtgkebfeggekkgaaDoor.PT Go.Proofs.YtgkebfeggekkgaaDoorW.PrintWords Go.Proofs.YtgkebfeggekkgaaDoorW.PrintLast Go.Proofs.YtgkebfeggekkgaaDoorW.PrintMore

theorem bind_each : ∀ (l : List S34) (last : Int), bindL last l = 0 → ∀ b ∈ l, checkL b.f3 = 0
  | [], _, _, b, h => by cases h
  | x :: r, last, hz, b, h => by
    rw [bindL] at hz
    split at hz
    · rename_i hx
      split at hz
      · cases hz
      · rcases List.mem_cons.1 h with rfl | h
        · exact hx
        · exact bind_each r _ hz b h
    · rename_i hx
      exact absurd hz hx
/-- where the first one is, if there is one -/
theorem first_at (at' : Int) : ∀ (l : List S34) (i f : Int), (firstL at' l i f = f) ∨ ∃ (k : Nat) (h : k < l.length), firstL at' l i f = i + k ∧ l[k].f1 = 2 ∧ l[k].f0 ≤ at'
  | [], _, _ => .inl rfl
  | b :: r, i, f => by
    by_cases hb : b.f0 ≤ at' ∧ b.f1 = 2
    · rcases first_at at' r (i + 1) i with h | ⟨k, hk, h1, h2⟩
      · refine .inr ⟨0, by simp, ?_, hb.2, hb.1⟩
        show firstL at' r (i + 1) (if b.f0 ≤ at' ∧ b.f1 = 2 then i else f) = _
        rw [if_pos hb, h]
        simp
      · refine .inr ⟨k + 1, by simpa using hk, ?_, h2⟩
        show firstL at' r (i + 1) (if b.f0 ≤ at' ∧ b.f1 = 2 then i else f) = _
        rw [if_pos hb, h1]
        omega
    · rcases first_at at' r (i + 1) f with h | ⟨k, hk, h1, h2⟩
      · refine .inl ?_
        show firstL at' r (i + 1) (if b.f0 ≤ at' ∧ b.f1 = 2 then i else f) = _
        rw [if_neg hb, h]
      · refine .inr ⟨k + 1, by simpa using hk, ?_, h2⟩
        show firstL at' r (i + 1) (if b.f0 ≤ at' ∧ b.f1 = 2 then i else f) = _
        rw [if_neg hb, h1]
        omega
def FurPost (w : World) (out : List S31) (n z : Int) (e : Ending) (w' : World) : Prop := ∃ v, e = .returned (.tuple #[v, .int .i64 n, .int .i64 z]) ∧ Kd.R k31 31 w' w.heap.size (fun _ => True) v out ∧ Below w.heap.size w w'
/-- while a binding is looked at -/
def AtW (w W1 W' : World) (v : Value) (n : Int) (out : List S31) : Prop := Fz w W' v n ∧ Below W1.heap.size W1 W' ∧ Kd.R k31 31 W' (w.heap.size + 3) (fun _ => True) v out
theorem AtW.keep {w W1 W' W'' : World} {v : Value} {n : Int} {out : List S31} (h : AtW w W1 W' v n out) (hb : Below W'.heap.size W' W'') : AtW w W1 W'' v n out :=
  ⟨h.1.keep hb, h.2.1.trans (hb.mono h.2.1.size), Kd.R_below h.2.2 hb⟩
theorem Fz.set {w W : World} {v v' : Value} {n m : Int} (h : Fz w W v n) : Fz w ((W.setCell ⟨w.heap.size, 0, none⟩ v').setCell ⟨w.heap.size + 1, 0, none⟩ (.int .i64 m)) v' m := by
  have hs := h.size
  obtain ⟨hB, ⟨c0, c1, c2⟩, f0, f1, f2⟩ := h
  refine ⟨(hB.setCell (p := ⟨w.heap.size, 0, none⟩) (Nat.le_refl _) v').setCell (p := ⟨w.heap.size + 1, 0, none⟩) (by simp) _, ⟨?_, ?_, ?_⟩, ?_, ?_, ?_⟩
  all_goals simp [go_sem, c0, c1, c2, f0, f1, f2]
theorem Fz.set1 {w W : World} {v : Value} {n m : Int} (h : Fz w W v n) : Fz w (W.setCell ⟨w.heap.size + 1, 0, none⟩ (.int .i64 m)) v m := by
  have hs := h.size
  obtain ⟨hB, ⟨c0, c1, c2⟩, f0, f1, f2⟩ := h
  refine ⟨hB.setCell (p := ⟨w.heap.size + 1, 0, none⟩) (by simp) _, ⟨?_, ?_, ?_⟩, ?_, ?_, ?_⟩
  all_goals simp [go_sem, c0, c1, c2, f0, f1, f2]
theorem R_set {w W : World} {v x u : Value} {l : List S31} (h : Kd.R k31 31 W (w.heap.size + 3) (fun _ => True) v l) :
    Kd.R k31 31 ((W.setCell ⟨w.heap.size, 0, none⟩ x).setCell ⟨w.heap.size + 1, 0, none⟩ u) (w.heap.size + 3) (fun _ => True) v l := by
  have h1 := Kd.R_bound h
  have h2 := Kd.R_far h1 (p := ⟨w.heap.size, 0, none⟩) (fun k hk => by have := hk.2.1; simp only; omega) x
  have h3 := Kd.R_far h2 (p := ⟨w.heap.size + 1, 0, none⟩) (fun k hk => by have := hk.2.1; simp only; omega) u
  exact Kd.R_mono h3 (fun _ _ => trivial)
theorem R_end {w W : World} {v x u y : Value} {l : List S31} (h : Kd.R k31 31 W (w.heap.size + 3) (fun _ => True) v l) :
    Kd.R k31 31 (((W.setCell ⟨w.heap.size, 0, none⟩ x).setCell ⟨w.heap.size + 1, 0, none⟩ u).setCell ⟨w.heap.size + 1 + 1, 0, none⟩ y) w.heap.size (fun _ => True) v l := by
  have h1 := Kd.R_bound (R_set (x := x) (u := u) h)
  have h2 := Kd.R_far h1 (p := ⟨w.heap.size + 1 + 1, 0, none⟩) (fun k hk => by have := hk.2.1; simp only; omega) y
  exact Kd.R_lower (Kd.R_mono h2 (fun _ _ => trivial)) (by omega)
theorem Fz.set2 {w W : World} {v : Value} {n : Int} (h : Fz w W v n) : Fz w (W.setCell ⟨w.heap.size + 1 + 1, 0, none⟩ (.int .i64 0)) v n := by
  have hs := h.size
  obtain ⟨hB, ⟨c0, c1, c2⟩, f0, f1, f2⟩ := h
  have o1 : ¬ w.heap.size = w.heap.size + 1 + 1 := by omega
  have o2 : ¬ w.heap.size + 1 + 1 = w.heap.size := by omega
  refine ⟨hB.setCell (p := ⟨w.heap.size + 1 + 1, 0, none⟩) (by simp; omega) _, ⟨?_, ?_, ?_⟩, ?_, ?_, ?_⟩
  all_goals simp [go_sem, c0, c1, c2, f0, f1, f2, o1, o2]
theorem door3_ret {w W : World} {v : Value} {n : Int} {o : List S31} {a : Act} (h : Fz w W v n) (hR : Kd.R k31 31 W (w.heap.size + 3) (fun _ => True) v o)
    (hd : a.defers = dF w) (h4 : a.tmps.getD 4 undef = .pointer (some ⟨w.heap.size, 0, none⟩)) (h5 : a.tmps.getD 5 undef = .pointer (some ⟨w.heap.size + 1, 0, none⟩)) (h6 : a.tmps.getD 6 undef = .pointer (some ⟨w.heap.size + 1 + 1, 0, none⟩)) :
    bodyPostD Tryd.prog Tryd.f20 (FurPost w o n 0) .ret a ((((W.setCell ⟨w.heap.size, 0, none⟩ v).setCell ⟨w.heap.size + 1, 0, none⟩ (.int .i64 n)).setCell ⟨w.heap.size + 1 + 1, 0, none⟩ (.int .i64 0)).drew) := by
  have hF : Fz w ((((W.setCell ⟨w.heap.size, 0, none⟩ v).setCell ⟨w.heap.size + 1, 0, none⟩ (.int .i64 n)).setCell ⟨w.heap.size + 1 + 1, 0, none⟩ (.int .i64 0)).drew) v n := (Fz.set2 (h.set (v' := v) (m := n))).keep (below_drew (Below.refl _ _))
  show Leaves _ _ _ _ _ _ _
  rw [hd]
  exact door3_ends hF ⟨v, rfl, Kd.R_below (R_end hR) (below_drew (Below.refl _ _)), hF.1⟩ h4 h5 h6
theorem slice_low {ad : Addr} {len c i : Nat} (hi : i < len) (hc : len ≤ c) (W : World) : (Instr.sliceAt 22 (.slice (some ad) len c) (some (.int .i64 i)) none none).run Tryd.prog W = .ok (.slice (some (ad.add (i * 4))) (len - i) (c - i)) W := by
  have hu22 := Tryd.underlying22
  go_simp
  rw [if_pos (by omega), if_neg (by omega)]
set_option maxRecDepth 100000 in
set_option maxHeartbeats 8000000 in
theorem furthest_some (A : Option Addr) (c : Nat) (ls : List S34) (at' : Int) (w : World) (hr : Kd.C k34 w A ls.length ls) (hc : ls.length ≤ c) (hz : bindL (-1) ls = 0) (i0 : Nat) (hi0 : i0 < ls.length) (hf : firstL at' ls 0 (-1) = i0) (hk0 : ls[i0].f1 = 2) (z : Int) (out : List S31) (m : Int) (hs : stepL ls[i0].f3 false 1 (ls.drop (i0 + 1)) = (z, out, m)) :
    Calls Tryd.prog 20 #[.slice A ls.length c, .int .i64 at'] w (FurPost w out m z) := by
  have hl : ls.length ≤ 9223372036854775807 := hr.2.1
  have HR := Aside0.mk hr
  have HV : Aside0 (Calls Tryd.prog 50 #[.slice A ls.length c] (((w.alloc (.cells #[.slice none 0 0] 24)).alloc (.cells #[.int .i64 0] 3)).alloc (.cells #[.int .i64 0] 25)) fun e w' => e = .returned (.tuple #[]) ∧ Fz w w' (.slice none 0 0) 0) :=
    ⟨(bindings_ok A c ls (wF w) (Kd.C_below hr (wF_below w)) hc hz).mono fun e w' ⟨h1, h2⟩ => ⟨h1, (Fz_start w).keep h2⟩⟩
  have hmf : ∀ (fn : Fn) (first cap : Array Value) (w : World), (Instr.makeFunc fn first cap).run Tryd.prog w = .ok (.func fn first cap) w := fun _ _ _ _ => rfl
  have hu34 := Tryd.underlying34
  have HF := Aside0.mk hf
  have HE := Aside0.mk (bind_each ls (-1) hz)
  have HST := Aside0.mk hs
  have HK0 := Aside0.mk hk0
  clear hz hr hf hs hk0
  go_enter_defers Tryd.func20, Tryd.ntmps20
  go_wp2
  go_step3
  go_wp2_with (first | (go_at_call 50; (with_reducible refine HV.out.mono ?_); rintro e w1 ⟨rfl, hb1⟩; have HB1 := Aside0.mk hb1; clear hb1))
  go_loopw [7, 18] (fun f i W => ∃ (k : Nat) (fi : Int), k ≤ ls.length ∧ i = .int .i64 k ∧ f = .int .i64 fi ∧ Aside0 (Fz w W (.slice none 0 0) 0) ∧ Aside0 (firstL at' ls 0 (-1) = firstL at' (ls.drop k) k fi)) (fun _ i _ => ls.length - (intOf i).toNat)
  case atStart => exact ⟨0, -1, Nat.zero_le _, rfl, rfl, HB1, ⟨by rw [List.drop_zero]; rfl⟩⟩
  case round =>
    obtain ⟨k, fi, hk, rfl, rfl, hbel, hrest⟩ := hrel
    by_cases hlt : k < ls.length
    · obtain ⟨ad, A3, c3, rfl, hx0, hx1, hx2, hx3, hc3, hg⟩ := at_T34 (Kd.C_below HR.out hbel.out.1) (k : Int) (by omega) (by omega)
      rw [Int.toNat_natCast] at hx0 hx1 hx2 hx3
      have hrd := rd34 ls k hlt
      generalize hgl : rd_T34 ls (k : Int) = x at hx0 hx1 hx2 hx3 hc3 hg hrd
      have hdrop : ls.drop k = x :: ls.drop (k + 1) := by rw [List.drop_eq_getElem_cons hlt, ← hrd]
      have hsz := hbel.out.size
      have HS := Aside0.mk (show firstL at' ls 0 (-1) = firstL at' (ls.drop (k + 1)) ((k + 1 : Nat) : Int) (if x.f0 ≤ at' ∧ x.f1 = 2 then (k : Int) else fi) by rw [hrest.out, hdrop]; rfl)
      clear hgl hrd hdrop hg hrest
      obtain ⟨f0, f1, f2, f3⟩ := x
      dsimp only at hx0 hx1 hx2 hx3 hc3 HS
      by_cases q0 : f0 ≤ at'
      · have d0 : decide (f0 ≤ at') = true := decide_eq_true q0
        by_cases q1 : f1 = 2
        · rw [if_pos ⟨q0, q1⟩] at HS
          subst q1
          clear q0
          go_wp2
          exact ⟨⟨k + 1, k, by omega, by first | rfl | simp, rfl, ⟨hbel.out.keep ((Below.refl _ _).alloc (Nat.le_refl _) _)⟩, HS⟩, by simp [intOf]; omega⟩
        · rw [if_neg (fun h => q1 h.2)] at HS
          have d1 : (f1 == 2) = false := by simpa using q1
          clear q0 q1
          go_wp2
          exact ⟨⟨k + 1, fi, by omega, by first | rfl | simp, rfl, ⟨hbel.out.keep ((Below.refl _ _).alloc (Nat.le_refl _) _)⟩, HS⟩, by simp [intOf]; omega⟩
      · rw [if_neg (fun h => q0 h.1)] at HS
        have d0 : decide (f0 ≤ at') = false := decide_eq_false q0
        clear q0
        go_wp2
        exact ⟨⟨k + 1, fi, by omega, by first | rfl | simp, rfl, ⟨hbel.out.keep ((Below.refl _ _).alloc (Nat.le_refl _) _)⟩, HS⟩, by simp [intOf]; omega⟩
    · have hfi := hrest.out
      rw [List.drop_of_length_le (show ls.length ≤ k by omega)] at hfi
      have HFI := Aside0.mk (show firstL at' ls 0 (-1) = fi from hfi)
      clear hfi hrest
      obtain rfl : fi = (i0 : Int) := by rw [← HFI.out, HF.out]
      cases A with
      | none =>
        have := HR.out.2.2 (by omega)
        obtain ⟨ad, e, _⟩ := this
        cases e
      | some ad =>
      have d0 : decide ((i0 : Int) < 0) = false := decide_eq_false (by omega)
      have hsl := fun W => slice_low (ad := ad) hi0 hc W
      have hbel2 := hbel.out
      obtain ⟨_, ⟨b0, b1, b2⟩, g0, g1, g2⟩ := hbel2
      have HR2 : Aside0 (∀ W, Below w.heap.size w W → Kd.C k34 W (some (ad.add (i0 * 4))) (ls.drop i0).length (ls.drop i0)) := ⟨fun W hb => by
        have h := Kd.C_drop (Kd.C_below HR.out hb) (m := i0) (c := c) (by omega) hc
        rw [if_neg (by omega)] at h
        exact h⟩
      have hu3 := Tryd.underlying3
      have hu24 := Tryd.underlying24
      have hu25 := Tryd.underlying25
      go_wp2_with (first | (go_at_call 51; (with_reducible refine (fail_false _ _).mono ?_); rintro e w2 ⟨rfl, rfl⟩))
      go_step3
      go_wp2
      have HFs := Aside0.mk (hbel.out.set1 (m := 0))
      have HRz := Aside0.mk (Kd.R_nil k31 31 (wr.setCell ⟨w.heap.size + 1, 0, none⟩ (.int .i64 0)) (w.heap.size + 3) (fun _ => True))
      clear hbel b0 b1 b2 g0 g1 g2 HFI d0 hsl HF
      go_loopw [10, 41] (fun fb j W => ∃ (q : Nat) (b : Bool) (o : List S31) (v : Value), q ≤ ls.length - i0 ∧ j = .int .i64 q ∧ fb = .bool b ∧ o.length ≤ 40 ∧ Aside0 (Fz w W v q) ∧ Aside0 (Kd.R k31 31 W (w.heap.size + 3) (fun _ => True) v o) ∧ Aside0 ((q = 0 ∧ b = false) ∨ (0 < q ∧ stepL o b q (ls.drop (i0 + q)) = (z, out, m)))) (fun _ j _ => ls.length - i0 - (intOf j).toNat)
      case atStart => exact ⟨0, false, [], _, Nat.zero_le _, rfl, rfl, by simp, HFs, HRz, ⟨.inl ⟨rfl, rfl⟩⟩⟩
      case round =>
        rename_i wOld
        obtain ⟨q, b, o, v, hq, rfl, rfl, ho40, hF, hRo, hinv⟩ := hrel
        by_cases hlt2 : q < ls.length - i0
        · obtain ⟨ad2, A3, c3, had2, hx0, hx1, hx2, hx3, hc3, hg⟩ := at_T34 (HR2.out _ hF.out.1) (q : Int) (by omega) (by rw [List.length_drop]; omega)
          cases had2
          rw [Int.toNat_natCast] at hx0 hx1 hx2 hx3
          have hrd := rd34 (ls.drop i0) q (by rw [List.length_drop]; omega)
          rw [List.getElem_drop] at hrd
          generalize hgl : rd_T34 (ls.drop i0) (q : Int) = x at hx0 hx1 hx2 hx3 hc3 hg hrd
          have hdrop : ls.drop (i0 + q) = x :: ls.drop (i0 + q + 1) := by rw [List.drop_eq_getElem_cons (show i0 + q < ls.length by omega), ← hrd]
          have hx40 : x.f3.length ≤ 40 := checkL_small (HE.out x (by rw [hrd]; exact List.getElem_mem _))
          have hsz := hF.out.size
          obtain ⟨f0, f1, f2, f3⟩ := x
          dsimp only at hx0 hx1 hx2 hx3 hc3 hg hx40
          obtain ⟨Ao, co, rfl, hco, _⟩ := Kd.R_reads hRo.out
          have hA1 : AtW w (wr.alloc (.cells #[.int .i64 f0, .int .i64 f1, .bool f2, .slice A3 f3.length c3] 34)) (wr.alloc (.cells #[.int .i64 f0, .int .i64 f1, .bool f2, .slice A3 f3.length c3] 34)) (.slice Ao o.length co) q o :=
            ⟨hF.out.keep ((Below.refl _ _).alloc (Nat.le_refl _) _), Below.refl _ _, Kd.R_below hRo.out ((Below.refl _ _).alloc (Nat.le_refl _) _)⟩
          generalize hW1 : wr.alloc (.cells #[.int .i64 f0, .int .i64 f1, .bool f2, .slice A3 f3.length c3] 34) = W1 at hA1
          have hB1 : Below wr.heap.size wr W1 := by rw [← hW1]; exact (Below.refl _ _).alloc (Nat.le_refl _) _
          have hS1 : wr.heap.size < W1.heap.size := by rw [← hW1]; simp
          have hfx : ∀ W', AtW w W1 W' (.slice Ao o.length co) q o → Kd.C k31 W' A3 f3.length f3 := fun W' h => Kd.C_below hg (hB1.trans (h.2.1.mono (by omega)))
          have hox : ∀ W', AtW w W1 W' (.slice Ao o.length co) q o → Kd.C k31 W' Ao o.length o := fun W' h => (Kd.R_reads' h.2.2).2.2
          have HBX : Aside0 (∀ W', AtW w W1 W' (.slice Ao o.length co) q o → W'.cell? ⟨wr.heap.size, 0, none⟩ = some (.int .i64 f0) ∧ W'.cell? ⟨wr.heap.size, 1, none⟩ = some (.int .i64 f1) ∧ W'.cell? ⟨wr.heap.size, 2, none⟩ = some (.bool f2) ∧ W'.cell? ⟨wr.heap.size, 3, none⟩ = some (.slice A3 f3.length c3)) := ⟨fun W' h => by
            refine ⟨(bcell h.2.1 hS1).trans ?_, (bcell h.2.1 hS1).trans ?_, (bcell h.2.1 hS1).trans ?_, (bcell h.2.1 hS1).trans ?_⟩
            all_goals (rw [← hW1]; simp [go_sem])⟩
          have HFX := Aside0.mk (fun W' (h : AtW w W1 W' (.slice Ao o.length co) q o) => h.1)
          have HCl := Aside0.mk (fun W' (h : AtW w W1 W' (.slice Ao o.length co) q o) => (clone_calls A3 c3 f3 W' (hfx W' h) hc3 (by omega)).mono (R' := fun e w' => ∃ v3, e = .returned v3 ∧ Kd.R k31 31 w' (w.heap.size + 3) (fun _ => True) v3 f3 ∧ AtW w W1 w' (.slice Ao o.length co) q o) fun e w' ⟨v3, h1, h2, h3⟩ => ⟨v3, h1, Kd.R_lower h2 h.1.size, h.keep h3⟩)
          have HEx := Aside0.mk (fun (hl : o.length + f3.length ≤ 40) W' (h : AtW w W1 W' (.slice Ao o.length co) q o) => (extended_ok (hox W' h) hco (hfx W' h) hc3 hl).mono (R' := fun e w' => ∃ v3, e = .returned v3 ∧ Kd.R k31 31 w' (w.heap.size + 3) (fun _ => True) v3 (o ++ f3) ∧ AtW w W1 w' (.slice Ao o.length co) q o) fun e w' ⟨v3, h1, h2, h3⟩ => ⟨v3, h1, Kd.R_lower h2 h.1.size, h.keep h3⟩)
          have HEb := Aside0.mk (fun (hl : ¬ o.length + f3.length ≤ 40) W' (h : AtW w W1 W' (.slice Ao o.length co) q o) => (extended_bad (hox W' h) hco (hfx W' h) hc3 ho40 hx40 hl).mono (R' := fun e w' => e = .panicked (failE 2) ∧ AtW w W1 w' (.slice Ao o.length co) q o) fun e w' ⟨h1, h3⟩ => ⟨h1, h.keep h3⟩)
          have HCf := Aside0.mk (fun W' (h : AtW w W1 W' (.slice Ao o.length co) q o) => (conforms_calls A3 c3 f3 Ao co o W' (hfx W' h) hc3 (hox W' h) hco hx40).mono (R' := fun e w' => e = .returned (.bool (conformsB f3 o)) ∧ AtW w W1 w' (.slice Ao o.length co) q o) fun e w' ⟨h1, h3⟩ => ⟨h1, h.keep h3.below⟩)
          have HA1 := Aside0.mk hA1
          have L0 : w.heap.size < wr.heap.size := by omega
          have L1 : w.heap.size + 1 < wr.heap.size := by omega
          have L2 : w.heap.size + 1 + 1 < wr.heap.size := by omega
          have n0 : ¬ wr.heap.size = w.heap.size := by omega
          have n1 : ¬ wr.heap.size = w.heap.size + 1 := by omega
          have m0 : ¬ w.heap.size = wr.heap.size := by omega
          have m1 : ¬ w.heap.size + 1 = wr.heap.size := by omega
          have hF0 := hF.out
          obtain ⟨_, ⟨b0, b1, b2⟩, g0, g1, g2⟩ := hF0
          have HX40 := Aside0.mk hx40
          have HHD := Aside0.mk hdrop
          have HRD := Aside0.mk hrd
          clear hfx hox hg hx40 hdrop hrd hgl hA1 hB1 hS1
          have hqz : IntKind.i64.wrap ((q : Int) + 1) = (q : Int) + 1 := IntWalk.i64_in _ (by omega)
          have hqn : 0 ≤ (q : Int) + 1 := by omega
          subst hW1
          by_cases hq0 : q = 0
          · have hb := hinv.out.resolve_right (fun h => by omega)
            obtain ⟨_, rfl⟩ := hb
            have hf1 : f1 = 2 := by
              have := HK0.out
              have e := congrArg S34.f1 HRD.out
              simp only [hq0] at e
              rw [← this]
              exact e
            subst hf1
            have e3 : ls[i0].f3 = f3 := by
              have e := congrArg S34.f3 HRD.out
              simp only [hq0] at e
              exact e.symm
            have HN := Aside0.mk (show stepL f3 false ((q + 1 : Nat) : Int) (ls.drop (i0 + (q + 1))) = (z, out, m) by have := HST.out; rw [e3] at this; subst hq0; exact this)
            clear e3 hinv
            subst hq0
            have hz0 : (ad.add (i0 * 4)).add (0 * 4) = ad.add (i0 * 4) := by simp [Addr.add]
            rw [hz0] at hx0 hx1 hx2 hx3
            have l0 : 0 < ls.length - i0 := hlt2
            clear hz0
            go_wp2_with (first | (go_at_call 52; (with_reducible refine (HCl.out _ HA1.out).mono ?_); rintro e w3 ⟨v3, rfl, hR3, hA3⟩; obtain ⟨A2, c2, rfl, _, _⟩ := Kd.R_reads hR3; have HR3 := Aside0.mk hR3; have HA3 := Aside0.mk hA3; obtain ⟨e0, e1, e2, e3⟩ := HBX.out _ hA3; obtain ⟨_, ⟨u0, u1, u2⟩, y0, y1, y2⟩ := HFX.out _ hA3; clear hR3 hA3))
            exact ⟨⟨1, false, f3, _, by omega, by first | rfl | simp, rfl, HX40.out, ⟨HA3.out.1.set⟩, ⟨R_set HR3.out⟩, ⟨.inr ⟨by omega, HN.out⟩⟩⟩, by simp [intOf]; omega⟩
          · have hstep := (hinv.out.resolve_left (fun h => hq0 h.1)).2
            rw [HHD.out] at hstep
            have qa : ((q : Int) == 0) = false := by simp [hq0]
            have qb : (q == 0) = false := by simp [hq0]
            have qc : decide (q = 0) = false := by simp [hq0]
            clear hinv
            by_cases hf1 : f1 = 2
            · subst hf1
              have HN := Aside0.mk (show ((0 : Int), o, (q : Int)) = (z, out, m) by rw [← hstep, stepL, if_pos rfl])
              clear hstep hq0
              go_wp2
              obtain ⟨_, ⟨k0, k1, k2⟩, h0, h1, h2⟩ := HFX.out _ HA1.out
              have HAA := HA1
              generalize wr.alloc (.cells #[.int .i64 f0, .int .i64 2, .bool f2, .slice A3 f3.length c3] 34) = WX at k0 k1 k2 h0 h1 h2 HAA ⊢
              go_region
              all_goals go_wp2
              all_goals rw [Exit.noGoto_ret]
              obtain ⟨rfl, rfl, rfl⟩ : 0 = z ∧ o = out ∧ (q : Int) = m := by have := HN.out; simpa using this
              exact door3_ret HAA.out.1 HAA.out.2.2 rfl rfl rfl rfl
            · rw [stepL, if_neg hf1] at hstep
              dsimp only at hstep
              cases b with
              | true =>
                rw [if_pos rfl] at hstep
                have k2 : (f1 == 2) = false := by simpa using hf1
                obtain ⟨rfl, rfl, rfl⟩ : 4 = z ∧ [] = out ∧ 0 = m := by simpa using hstep
                clear hstep hf1 hq0
                go_wp2_with (first | (go_at_call 51; (with_reducible refine (fail_true _ _).mono ?_); rintro e w2 ⟨rfl, rfl⟩))
                exact door3_fails (by decide) (fun w' hb => ⟨_, rfl, Kd.R_nil _ _ _ _ _, hb⟩) (HFX.out _ HA1.out) rfl rfl rfl rfl
              | false =>
                rw [if_neg (by decide)] at hstep
                clear hq0
                cases f2 with
                | true =>
                  rw [if_pos rfl] at hstep
                  by_cases hlen : o.length + f3.length ≤ 40
                  · rw [if_pos hlen] at hstep
                    have HExx := Aside0.mk (HEx.out hlen)
                    by_cases hk4 : f1 = 4
                    · subst hk4
                      have HN := Aside0.mk (show stepL (o ++ f3) true ((q + 1 : Nat) : Int) (ls.drop (i0 + (q + 1))) = (z, out, m) by skip; exact hstep)
                      clear hstep hf1
                      go_wp2_with (first | (go_at_call 51; (with_reducible refine (fail_false _ _).mono ?_); rintro e w2 ⟨rfl, rfl⟩) | (go_at_call 53; (with_reducible refine (HExx.out _ HA1.out).mono ?_); rintro e w3 ⟨v3, rfl, hR3, hA3⟩; obtain ⟨A2, c2, rfl, _, _⟩ := Kd.R_reads hR3; generalize (o ++ f3).length = n3 at hR3; have HR3 := Aside0.mk hR3; have HA3 := Aside0.mk hA3; obtain ⟨e0, e1, e2, e3⟩ := HBX.out _ hA3; obtain ⟨_, ⟨u0, u1, u2⟩, y0, y1, y2⟩ := HFX.out _ hA3; clear hR3 hA3))
                      exact ⟨⟨q + 1, true, o ++ f3, _, by omega, by first | rfl | simp, rfl, by first | exact HX40.out | (simp; omega), ⟨HA3.out.1.set⟩, ⟨R_set HR3.out⟩, ⟨.inr ⟨by omega, HN.out⟩⟩⟩, by simp [intOf]; omega⟩
                    · have HN := Aside0.mk (show stepL (o ++ f3) false ((q + 1 : Nat) : Int) (ls.drop (i0 + (q + 1))) = (z, out, m) by rw [decide_eq_false hk4] at hstep; skip; exact hstep)
                      have k4 : (f1 == 4) = false := by simpa using hk4
                      have k2 : (f1 == 2) = false := by simpa using hf1
                      clear hstep hf1 hk4
                      go_wp2_with (first | (go_at_call 51; (with_reducible refine (fail_false _ _).mono ?_); rintro e w2 ⟨rfl, rfl⟩) | (go_at_call 53; (with_reducible refine (HExx.out _ HA1.out).mono ?_); rintro e w3 ⟨v3, rfl, hR3, hA3⟩; obtain ⟨A2, c2, rfl, _, _⟩ := Kd.R_reads hR3; generalize (o ++ f3).length = n3 at hR3; have HR3 := Aside0.mk hR3; have HA3 := Aside0.mk hA3; obtain ⟨e0, e1, e2, e3⟩ := HBX.out _ hA3; obtain ⟨_, ⟨u0, u1, u2⟩, y0, y1, y2⟩ := HFX.out _ hA3; clear hR3 hA3))
                      exact ⟨⟨q + 1, false, o ++ f3, _, by omega, by first | rfl | simp, rfl, by first | exact HX40.out | (simp; omega), ⟨HA3.out.1.set⟩, ⟨R_set HR3.out⟩, ⟨.inr ⟨by omega, HN.out⟩⟩⟩, by simp [intOf]; omega⟩
                  · rw [if_neg hlen] at hstep
                    have HEbb := Aside0.mk (HEb.out hlen)
                    have k2 : (f1 == 2) = false := by simpa using hf1
                    obtain ⟨rfl, rfl, rfl⟩ : 2 = z ∧ [] = out ∧ 0 = m := by simpa using hstep
                    clear hstep hf1
                    go_wp2_with (first | (go_at_call 51; (with_reducible refine (fail_false _ _).mono ?_); rintro e w2 ⟨rfl, rfl⟩) | (go_at_call 53; (with_reducible refine (HEbb.out _ HA1.out).mono ?_); rintro e w3 ⟨rfl, hA3⟩; have HA3 := Aside0.mk hA3; clear hA3))
                    exact door3_fails (by decide) (fun w' hb => ⟨_, rfl, Kd.R_nil _ _ _ _ _, hb⟩) (HFX.out _ HA3.out) rfl rfl rfl rfl
                | false =>
                  rw [if_neg (by decide)] at hstep
                  cases hcf : conformsB f3 o with
                  | true =>
                    rw [hcf, if_pos rfl] at hstep
                    by_cases hk4 : f1 = 4
                    · subst hk4
                      have HN := Aside0.mk (show stepL (f3) true ((q + 1 : Nat) : Int) (ls.drop (i0 + (q + 1))) = (z, out, m) by skip; exact hstep)
                      clear hstep hf1
                      go_wp2_with (first | (go_at_call 51; (with_reducible refine (fail_false _ _).mono ?_); rintro e w2 ⟨rfl, rfl⟩) | (go_at_call 54; (with_reducible refine (HCf.out _ HA1.out).mono ?_); rintro e w4 ⟨rfl, hA4⟩; rw [hcf]; have HA4 := Aside0.mk hA4; obtain ⟨e0, e1, e2, e3⟩ := HBX.out _ hA4; obtain ⟨_, ⟨u0, u1, u2⟩, y0, y1, y2⟩ := HFX.out _ hA4; clear hA4) | (go_at_call 52; (with_reducible refine (HCl.out _ HA4.out).mono ?_); rintro e w3 ⟨v3, rfl, hR3, hA3⟩; obtain ⟨A2, c2, rfl, _, _⟩ := Kd.R_reads hR3; generalize f3.length = n3 at hR3; have HR3 := Aside0.mk hR3; have HA3 := Aside0.mk hA3; obtain ⟨e0, e1, e2, e3⟩ := HBX.out _ hA3; obtain ⟨_, ⟨u0, u1, u2⟩, y0, y1, y2⟩ := HFX.out _ hA3; clear hR3 hA3))
                      exact ⟨⟨q + 1, true, f3, _, by omega, by first | rfl | simp, rfl, by first | exact HX40.out | (simp; omega), ⟨HA3.out.1.set⟩, ⟨R_set HR3.out⟩, ⟨.inr ⟨by omega, HN.out⟩⟩⟩, by simp [intOf]; omega⟩
                    · have HN := Aside0.mk (show stepL (f3) false ((q + 1 : Nat) : Int) (ls.drop (i0 + (q + 1))) = (z, out, m) by rw [decide_eq_false hk4] at hstep; skip; exact hstep)
                      have k4 : (f1 == 4) = false := by simpa using hk4
                      have k2 : (f1 == 2) = false := by simpa using hf1
                      clear hstep hf1 hk4
                      go_wp2_with (first | (go_at_call 51; (with_reducible refine (fail_false _ _).mono ?_); rintro e w2 ⟨rfl, rfl⟩) | (go_at_call 54; (with_reducible refine (HCf.out _ HA1.out).mono ?_); rintro e w4 ⟨rfl, hA4⟩; rw [hcf]; have HA4 := Aside0.mk hA4; obtain ⟨e0, e1, e2, e3⟩ := HBX.out _ hA4; obtain ⟨_, ⟨u0, u1, u2⟩, y0, y1, y2⟩ := HFX.out _ hA4; clear hA4) | (go_at_call 52; (with_reducible refine (HCl.out _ HA4.out).mono ?_); rintro e w3 ⟨v3, rfl, hR3, hA3⟩; obtain ⟨A2, c2, rfl, _, _⟩ := Kd.R_reads hR3; generalize f3.length = n3 at hR3; have HR3 := Aside0.mk hR3; have HA3 := Aside0.mk hA3; obtain ⟨e0, e1, e2, e3⟩ := HBX.out _ hA3; obtain ⟨_, ⟨u0, u1, u2⟩, y0, y1, y2⟩ := HFX.out _ hA3; clear hR3 hA3))
                      exact ⟨⟨q + 1, false, f3, _, by omega, by first | rfl | simp, rfl, by first | exact HX40.out | (simp; omega), ⟨HA3.out.1.set⟩, ⟨R_set HR3.out⟩, ⟨.inr ⟨by omega, HN.out⟩⟩⟩, by simp [intOf]; omega⟩
                  | false =>
                    rw [hcf, if_neg (by decide)] at hstep
                    have k2 : (f1 == 2) = false := by simpa using hf1
                    obtain ⟨rfl, rfl, rfl⟩ : 9 = z ∧ [] = out ∧ 0 = m := by simpa using hstep
                    clear hstep hf1
                    go_wp2_with (first | (go_at_call 51; (with_reducible refine (fail_false _ _).mono ?_); rintro e w2 ⟨rfl, rfl⟩) | (go_at_call 51; (with_reducible refine (fail_true _ _).mono ?_); rintro e w2 ⟨rfl, rfl⟩) | (go_at_call 54; (with_reducible refine (HCf.out _ HA1.out).mono ?_); rintro e w4 ⟨rfl, hA4⟩; rw [hcf]; have HA4 := Aside0.mk hA4; obtain ⟨e0, e1, e2, e3⟩ := HBX.out _ hA4; obtain ⟨_, ⟨u0, u1, u2⟩, y0, y1, y2⟩ := HFX.out _ hA4; clear hA4))
                    exact door3_fails (by decide) (fun w' hb => ⟨_, rfl, Kd.R_nil _ _ _ _ _, hb⟩) (HFX.out _ HA4.out) rfl rfl rfl rfl
        · have hqe : q = ls.length - i0 := by omega
          have hstep := (hinv.out.resolve_left (fun h => by omega)).2
          rw [List.drop_of_length_le (by omega)] at hstep
          obtain ⟨rfl, rfl, rfl⟩ : 0 = z ∧ o = out ∧ (q : Int) = m := by simpa [stepL] using hstep
          obtain ⟨Ao, co, rfl, hco, _⟩ := Kd.R_reads hRo.out
          have hF0 := hF.out
          obtain ⟨_, ⟨k0, k1, k2⟩, h0, h1, h2⟩ := hF0
          clear hinv hstep hqe
          go_wp2
          go_region
          all_goals go_wp2
          all_goals rw [Exit.noGoto_ret]
          all_goals exact door3_ret hF.out hRo.out rfl rfl rfl rfl
def pattern_Furthest.f (l : List S34) (at' : Int) : Option (List S31 × Int × Int) :=
  if bindL (-1) l = 0 then
    (if firstL at' l 0 (-1) < 0 then some ([], 0, 5)
     else match l.drop (firstL at' l 0 (-1)).toNat with
      | [] => none
      | b :: r => some ((stepL b.f3 false 1 r).2.1, (stepL b.f3 false 1 r).2.2, (stepL b.f3 false 1 r).1))
  else some ([], 0, bindL (-1) l)
theorem pattern_Furthest.calls (A0 : Option Addr) (c0 : Nat) (l0 : List S34) (a1 : Int) (r1 : List S31) (r2 r3 : Int) (w : World) (hr0 : Kd.C k34 w A0 l0.length l0) (hc0 : l0.length ≤ c0) (h : pattern_Furthest.f l0 a1 = some (r1, r2, r3)) :
    Calls Tryd.prog 20 #[.slice A0 l0.length c0, .int .i64 a1] w fun e w' => ∃ v0_ : Value, e = .returned (.tuple #[v0_, .int .i64 r2, .int .i64 r3]) ∧ Kd.R k31 31 w' w.heap.size (fun _ => True) v0_ r1 ∧ Below w.heap.size w w' := by
  unfold pattern_Furthest.f at h
  by_cases hz : bindL (-1) l0 = 0
  · rw [if_pos hz] at h
    by_cases hf : firstL a1 l0 0 (-1) < 0
    · rw [if_pos hf] at h
      cases h
      exact (furthest_none A0 c0 l0 a1 w hr0 hc0 hz hf).mono fun e w' ⟨h1, h2⟩ => ⟨_, h1, Kd.R_nil _ _ _ _ _, h2⟩
    · rw [if_neg hf] at h
      rcases first_at a1 l0 0 (-1) with h1 | ⟨k, hk, h1, h2, _⟩
      · omega
      · rw [h1, show ((0 : Int) + k).toNat = k by omega, List.drop_eq_getElem_cons hk] at h
        cases h
        exact furthest_some A0 c0 l0 a1 w hr0 hc0 hz k hk (by rw [h1]; omega) h2 _ _ _ rfl
  · rw [if_neg hz] at h
    cases h
    exact (furthest_bad A0 c0 l0 a1 w hr0 hc0 _ rfl hz).mono fun e w' ⟨h1, h2⟩ => ⟨_, h1, Kd.R_nil _ _ _ _ _, h2⟩
end Go.Proofs.YtgkebfeggekkgaaDoor.Given
