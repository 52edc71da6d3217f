/- The contract of Furthest. -/
import Derived.Test.YtgkebfeggekkgaaDoorHf
import Derived.WalkMore
set_option linter.unusedVariables false
set_option linter.unusedSimpArgs false
namespace Go.Proofs.YtgkebfeggekkgaaDoor.Given
open Go.RowKit Go.Proofs.YtgkebfeggekkgaaDoor.PT Go.Proofs.YtgkebfeggekkgaaDoorW.PrintWords Go.Proofs.YtgkebfeggekkgaaDoorW.PrintLast Go.Proofs.YtgkebfeggekkgaaDoorW.PrintMore

theorem bindings_ok (A : Option Addr) (c : Nat) (ls : List S34) (w : World) (hr : Kd.C k34 w A ls.length ls) (hc : ls.length ≤ c) (h : bindL (-1) ls = 0) :
    Calls Tryd.prog 50 #[.slice A ls.length c] w fun e w' => e = .returned (.tuple #[]) ∧ Below w.heap.size w w' :=
  (bindings_post A c ls w hr hc).mono fun e w' ⟨h1, h2⟩ => ⟨by rw [if_pos h] at h1; exact h1, h2⟩
theorem bindings_bad (A : Option Addr) (c : Nat) (ls : List S34) (w : World) (hr : Kd.C k34 w A ls.length ls) (hc : ls.length ≤ c) (z : Int) (hz : bindL (-1) ls = z) (h : ¬ z = 0) :
    Calls Tryd.prog 50 #[.slice A ls.length c] w fun e w' => e = .panicked (failE z) ∧ Below w.heap.size w w' :=
  (bindings_post A c ls w hr hc).mono fun e w' ⟨h1, h2⟩ => ⟨by rw [hz, if_neg h] at h1; exact h1, h2⟩
set_option maxRecDepth 100000 in
theorem clo_zero (pe pn : Addr) (w : World) (h : w.cell? pe = some (.int .i64 0)) :
    CallsD Tryd.prog 48 #[.pointer (some pe), .pointer (some pn)] .returning w fun e u' w' => u' = .returning ∧ (e = .returned (.tuple #[]) ∧ w = w') := by
  have hu25 := Tryd.underlying25
  go_enter_d Tryd.func48, Tryd.ntmps48
  go_wp2
  go_end0
  exact ⟨rfl, rfl⟩
set_option maxRecDepth 100000 in
theorem clo_fails (pe pn : Addr) (c : Int) (x : Value) (w : World) (h : w.cell? pe = some (.int .i64 c)) (hc : ¬ c = 0) (hn : w.cell? pn = some x) (hf : w.frozen? pn = false) :
    CallsD Tryd.prog 48 #[.pointer (some pe), .pointer (some pn)] .returning w fun e u' w' => u' = .returning ∧ (e = .returned (.tuple #[]) ∧ w.setCell pn (.int .i64 0) = w') := by
  have hu25 := Tryd.underlying25
  have hu3 := Tryd.underlying3
  have hz : (c != 0) = true := by simpa using hc
  go_enter_d Tryd.func48, Tryd.ntmps48
  go_wp2
  go_end0
  exact ⟨rfl, rfl⟩
/-- the three results' cells are there, and nothing older has turned -/
def Fz (w W : World) (v : Value) (n : Int) : Prop := Below w.heap.size w W ∧ (W.cell? ⟨w.heap.size, 0, none⟩ = some v ∧ W.cell? ⟨w.heap.size + 1, 0, none⟩ = some (.int .i64 n) ∧ W.cell? ⟨w.heap.size + 1 + 1, 0, none⟩ = some (.int .i64 0)) ∧
  W.frozen? ⟨w.heap.size, 0, none⟩ = false ∧ W.frozen? ⟨w.heap.size + 1, 0, none⟩ = false ∧ W.frozen? ⟨w.heap.size + 1 + 1, 0, none⟩ = false
theorem Fz.size {w W : World} {v : Value} {n : Int} (h : Fz w W v n) : w.heap.size + 3 ≤ W.heap.size := by
  have := World.block_lt_of_cell? W _ h.2.1.2.2
  simp only [] at this
  omega
theorem Fz.keep {w W W' : World} {v : Value} {n : Int} (h : Fz w W v n) (hb : Below W.heap.size W W') : Fz w W' v n := by
  have hs := h.size
  obtain ⟨hB, ⟨c0, c1, c2⟩, f0, f1, f2⟩ := h
  exact ⟨hB.trans (hb.mono (by omega)), ⟨(bcell hb (by omega)).trans c0, (bcell hb (by omega)).trans c1, (bcell hb (by omega)).trans c2⟩, (bfrozen hb (by omega)).trans f0, (bfrozen hb (by omega)).trans f1, (bfrozen hb (by omega)).trans f2⟩
/-- the world behind the three blocks that Furthest lays -/
def wF (w : World) : World := ((w.alloc (.cells #[.slice none 0 0] 24)).alloc (.cells #[.int .i64 0] 3)).alloc (.cells #[.int .i64 0] 25)
theorem wF_size (w : World) : (wF w).heap.size = w.heap.size + 3 := by simp [wF]
theorem wF_below (w : World) : Below w.heap.size w (wF w) := (((Below.refl _ _).alloc (Nat.le_refl _) _).alloc (by simp) _).alloc (by simp; omega) _
theorem Fz_start (w : World) : Fz w (wF w) (.slice none 0 0) 0 := by
  refine ⟨wF_below w, ⟨?_, ?_, ?_⟩, ?_, ?_, ?_⟩
  all_goals simp [wF, go_sem]
def dF (w : World) : List Deferred := [{ target := .fn (.func 49) #[], args := #[.pointer (some ⟨w.heap.size, 0, none⟩), .pointer (some ⟨w.heap.size + 1 + 1, 0, none⟩)] },
  { target := .fn (.func 48) #[.pointer (some ⟨w.heap.size + 1 + 1, 0, none⟩), .pointer (some ⟨w.heap.size + 1, 0, none⟩)], args := #[] }]
theorem res20 (t : Array Value) (W : World) (g : Nat) (x y u : Value) (h4 : t.getD 4 undef = .pointer (some ⟨g, 0, none⟩)) (h5 : t.getD 5 undef = .pointer (some ⟨g + 1, 0, none⟩)) (h6 : t.getD 6 undef = .pointer (some ⟨g + 1 + 1, 0, none⟩))
    (c0 : W.cell? ⟨g, 0, none⟩ = some x) (c1 : W.cell? ⟨g + 1, 0, none⟩ = some y) (c2 : W.cell? ⟨g + 1 + 1, 0, none⟩ = some u) : (results Tryd.f20 t).run Tryd.prog W = .ok (.tuple #[x, y, u]) W := by
  have hu24 := Tryd.underlying24
  have hu3 := Tryd.underlying3
  have hu25 := Tryd.underlying25
  have e4 : t[4]?.getD undef = .pointer (some ⟨g, 0, none⟩) := by simpa [Array.getD_eq_getD_getElem?] using h4
  have e5 : t[5]?.getD undef = .pointer (some ⟨g + 1, 0, none⟩) := by simpa [Array.getD_eq_getD_getElem?] using h5
  have e6 : t[6]?.getD undef = .pointer (some ⟨g + 1 + 1, 0, none⟩) := by simpa [Array.getD_eq_getD_getElem?] using h6
  simp [results, Tryd.results20, go_sem, e4, e5, e6, c0, c1, c2]
set_option maxRecDepth 100000 in
theorem door3_fails {R : Ending → World → Prop} {w W : World} {v : Value} {n c : Int} {a : Act} (hc : ¬ c = 0) (hR : ∀ w', Below w.heap.size w w' → R (.returned (.tuple #[.slice none 0 0, .int .i64 0, .int .i64 c])) w') (h : Fz w W v n)
    (hd : a.defers = dF w) (h4 : a.tmps.getD 4 undef = .pointer (some ⟨w.heap.size, 0, none⟩)) (h5 : a.tmps.getD 5 undef = .pointer (some ⟨w.heap.size + 1, 0, none⟩)) (h6 : a.tmps.getD 6 undef = .pointer (some ⟨w.heap.size + 1 + 1, 0, none⟩)) :
    bodyPostD Tryd.prog Tryd.f20 R (.panic (failE c)) a W := by
  have hs := h.size
  obtain ⟨hB, ⟨c0, c1, c2⟩, f0, f1, f2⟩ := h
  show Leaves _ _ _ _ _ _ _
  rw [hd]
  refine leaves_cons (f := 49) (args := #[.pointer (some ⟨w.heap.size, 0, none⟩), .pointer (some ⟨w.heap.size + 1 + 1, 0, none⟩)]) (by simp) (by simp [go_sem]) ?_
  refine (guardPats_fails w.heap.size (w.heap.size + 1 + 1) c _ _ W c0 c2 f0 f2 (by omega)).mono ?_
  rintro e u' w'' ⟨rfl, rfl, rfl⟩
  have hBf := below_drew (((hB.setCell (p := ⟨w.heap.size, 0, none⟩) (Nat.le_refl _) (.slice none 0 0)).setCell (p := ⟨w.heap.size + 1 + 1, 0, none⟩) (by simp; omega) (.int .i64 c)).alloc (by simp; omega) (.cells #[.int .i64 c] 113))
  have lt0 : w.heap.size < W.heap.size := by omega
  have lt1 : w.heap.size + 1 < W.heap.size := by omega
  have lt2 : w.heap.size + 1 + 1 < W.heap.size := by omega
  have n0 : ¬ w.heap.size = W.heap.size := by omega
  have n1 : ¬ w.heap.size + 1 = W.heap.size := by omega
  have n2 : ¬ w.heap.size + 1 + 1 = W.heap.size := by omega
  have m0 : ¬ W.heap.size = w.heap.size := by omega
  have m1 : ¬ W.heap.size = w.heap.size + 1 := by omega
  have m2 : ¬ W.heap.size = w.heap.size + 1 + 1 := by omega
  have o1 : ¬ w.heap.size = w.heap.size + 1 + 1 := by omega
  have o2 : ¬ w.heap.size + 1 + 1 = w.heap.size := by omega
  generalize hX : ((((W.setCell ⟨w.heap.size, 0, none⟩ (.slice none 0 0)).setCell ⟨w.heap.size + 1 + 1, 0, none⟩ (.int .i64 c)).alloc (.cells #[.int .i64 c] 113)).drew) = X at hBf ⊢
  have x0 : X.cell? ⟨w.heap.size, 0, none⟩ = some (.slice none 0 0) := by subst hX; simp [go_sem, c0, c1, c2, lt0, lt1, lt2, n0, n1, n2, m0, m1, m2, o1, o2]
  have x1 : X.cell? ⟨w.heap.size + 1, 0, none⟩ = some (.int .i64 n) := by subst hX; simp [go_sem, c0, c1, c2, lt0, lt1, lt2, n0, n1, n2, m0, m1, m2, o1, o2]
  have x2 : X.cell? ⟨w.heap.size + 1 + 1, 0, none⟩ = some (.int .i64 c) := by subst hX; simp [go_sem, c0, c1, c2, lt0, lt1, lt2, n0, n1, n2, m0, m1, m2, o1, o2]
  have xf : X.frozen? ⟨w.heap.size + 1, 0, none⟩ = false := by subst hX; simp [go_sem, frozen?_alloc_cells, f1, n1, m1]
  clear hX
  show Leaves _ _ _ _ _ .returning _
  refine leaves_cons (f := 48) (args := #[.pointer (some ⟨w.heap.size + 1 + 1, 0, none⟩), .pointer (some ⟨w.heap.size + 1, 0, none⟩)]) (by simp) (by simp [go_sem]) ?_
  refine (clo_fails _ _ c _ X x2 hc x1 xf).mono ?_
  rintro e u' w'' ⟨rfl, rfl, rfl⟩
  show Leaves _ _ _ _ [] .returning _
  refine ⟨_, res20 _ _ w.heap.size (.slice none 0 0) (.int .i64 0) (.int .i64 c) h4 h5 h6 ?_ ?_ ?_, hR _ (hBf.setCell (p := ⟨w.heap.size + 1, 0, none⟩) (by simp) _)⟩
  all_goals simp [go_sem, x0, x1, x2]
theorem door3_ends {R : Ending → World → Prop} {w W : World} {v : Value} {n : Int} {t : Array Value} (h : Fz w W v n) (hR : R (.returned (.tuple #[v, .int .i64 n, .int .i64 0])) W)
    (h4 : t.getD 4 undef = .pointer (some ⟨w.heap.size, 0, none⟩)) (h5 : t.getD 5 undef = .pointer (some ⟨w.heap.size + 1, 0, none⟩)) (h6 : t.getD 6 undef = .pointer (some ⟨w.heap.size + 1 + 1, 0, none⟩)) :
    Leaves Tryd.prog Tryd.f20 t R (dF w) .returning W := by
  obtain ⟨hB, ⟨c0, c1, c2⟩, f0, f1, f2⟩ := h
  refine leaves_cons (f := 49) (args := #[.pointer (some ⟨w.heap.size, 0, none⟩), .pointer (some ⟨w.heap.size + 1 + 1, 0, none⟩)]) (by simp) (by simp [go_sem]) ?_
  refine (guardPats_idle _ _ W).mono ?_
  rintro e u' w'' ⟨rfl, rfl, rfl⟩
  show Leaves _ _ _ _ _ .returning _
  refine leaves_cons (f := 48) (args := #[.pointer (some ⟨w.heap.size + 1 + 1, 0, none⟩), .pointer (some ⟨w.heap.size + 1, 0, none⟩)]) (by simp) (by simp [go_sem]) ?_
  refine (clo_zero _ _ W c2).mono ?_
  rintro e u' w'' ⟨rfl, rfl, rfl⟩
  show Leaves _ _ _ _ [] .returning _
  exact ⟨_, res20 _ _ w.heap.size _ _ _ h4 h5 h6 c0 c1 c2, hR⟩
set_option maxRecDepth 100000 in
set_option maxHeartbeats 1000000 in
theorem furthest_bad (A : Option Addr) (c : Nat) (ls : List S34) (at' : Int) (w : World) (hr : Kd.C k34 w A ls.length ls) (hc : ls.length ≤ c) (z : Int) (hz : bindL (-1) ls = z) (h : ¬ z = 0) :
    Calls Tryd.prog 20 #[.slice A ls.length c, .int .i64 at'] w fun e w' => e = .returned (.tuple #[.slice none 0 0, .int .i64 0, .int .i64 z]) ∧ Below w.heap.size w w' := by
  have HV : Aside0 (Calls Tryd.prog 50 #[.slice A ls.length c] (((w.alloc (.cells #[.slice none 0 0] 24)).alloc (.cells #[.int .i64 0] 3)).alloc (.cells #[.int .i64 0] 25)) fun e w' => e = .panicked (failE z) ∧ Fz w w' (.slice none 0 0) 0) :=
    ⟨(bindings_bad A c ls (wF w) (Kd.C_below hr (wF_below w)) hc z hz h).mono fun e w' ⟨h1, h2⟩ => ⟨h1, (Fz_start w).keep h2⟩⟩
  have HZ := Aside0.mk h
  have hmf : ∀ (fn : Fn) (first cap : Array Value) (w : World), (Instr.makeFunc fn first cap).run Tryd.prog w = .ok (.func fn first cap) w := fun _ _ _ _ => rfl
  clear hz h hr
  go_enter_defers Tryd.func20, Tryd.ntmps20
  go_wp2
  go_step3
  go_wp2_with (first | (go_at_call 50; (with_reducible refine HV.out.mono ?_); rintro e w1 ⟨rfl, hb1⟩))
  exact door3_fails HZ.out (fun w' hb => ⟨rfl, hb⟩) hb1 rfl rfl rfl rfl
/-- the last one that introduces, up to a place: at which index -/
def firstL (at' : Int) : List S34 → Int → Int → Int
  | [], _, f => f
  | b :: r, i, f => firstL at' r (i + 1) (if b.f0 ≤ at' ∧ b.f1 = 2 then i else f)
/-- what the bindings behind the first one make of it -/
def stepL : List S31 → Bool → Int → List S34 → Int × List S31 × Int
  | out, _, n, [] => (0, out, n)
  | out, final, n, b :: r =>
    if b.f1 = 2 then (0, out, n)
    else if final = true then (4, [], 0)
    else if b.f2 = true then (if out.length + b.f3.length ≤ 40 then stepL (out ++ b.f3) (decide (b.f1 = 4)) (n + 1) r else (2, [], 0))
    else if conformsB b.f3 out = true then stepL b.f3 (decide (b.f1 = 4)) (n + 1) r else (9, [], 0)
set_option maxRecDepth 100000 in
set_option maxHeartbeats 4000000 in
theorem furthest_none (A : Option Addr) (c : Nat) (ls : List S34) (at' : Int) (w : World) (hr : Kd.C k34 w A ls.length ls) (hc : ls.length ≤ c) (hz : bindL (-1) ls = 0) (hf : firstL at' ls 0 (-1) < 0) :
    Calls Tryd.prog 20 #[.slice A ls.length c, .int .i64 at'] w fun e w' => e = .returned (.tuple #[.slice none 0 0, .int .i64 0, .int .i64 5]) ∧ Below w.heap.size w w' := by
  have hl : ls.length ≤ 9223372036854775807 := hr.2.1
  have HR := Aside0.mk hr
  have HV : Aside0 (Calls Tryd.prog 50 #[.slice A ls.length c] (((w.alloc (.cells #[.slice none 0 0] 24)).alloc (.cells #[.int .i64 0] 3)).alloc (.cells #[.int .i64 0] 25)) fun e w' => e = .returned (.tuple #[]) ∧ Fz w w' (.slice none 0 0) 0) :=
    ⟨(bindings_ok A c ls (wF w) (Kd.C_below hr (wF_below w)) hc hz).mono fun e w' ⟨h1, h2⟩ => ⟨h1, (Fz_start w).keep h2⟩⟩
  have hmf : ∀ (fn : Fn) (first cap : Array Value) (w : World), (Instr.makeFunc fn first cap).run Tryd.prog w = .ok (.func fn first cap) w := fun _ _ _ _ => rfl
  have hu34 := Tryd.underlying34
  have HF := Aside0.mk hf
  clear hz hr hf
  go_enter_defers Tryd.func20, Tryd.ntmps20
  go_wp2
  go_step3
  go_wp2_with (first | (go_at_call 50; (with_reducible refine HV.out.mono ?_); rintro e w1 ⟨rfl, hb1⟩; have HB1 := Aside0.mk hb1; clear hb1))
  go_loopw [7, 18] (fun f i W => ∃ (k : Nat) (fi : Int), k ≤ ls.length ∧ i = .int .i64 k ∧ f = .int .i64 fi ∧ Aside0 (Fz w W (.slice none 0 0) 0) ∧ Aside0 (firstL at' ls 0 (-1) = firstL at' (ls.drop k) k fi)) (fun _ i _ => ls.length - (intOf i).toNat)
  case atStart => exact ⟨0, -1, Nat.zero_le _, rfl, rfl, HB1, ⟨by rw [List.drop_zero]; rfl⟩⟩
  case round =>
    obtain ⟨k, fi, hk, rfl, rfl, hbel, hrest⟩ := hrel
    by_cases hlt : k < ls.length
    · obtain ⟨ad, A3, c3, rfl, hx0, hx1, hx2, hx3, hc3, hg⟩ := at_T34 (Kd.C_below HR.out hbel.out.1) (k : Int) (by omega) (by omega)
      rw [Int.toNat_natCast] at hx0 hx1 hx2 hx3
      have hrd := rd34 ls k hlt
      generalize hgl : rd_T34 ls (k : Int) = x at hx0 hx1 hx2 hx3 hc3 hg hrd
      have hdrop : ls.drop k = x :: ls.drop (k + 1) := by rw [List.drop_eq_getElem_cons hlt, ← hrd]
      have hsz := hbel.out.size
      have HS := Aside0.mk (show firstL at' ls 0 (-1) = firstL at' (ls.drop (k + 1)) ((k + 1 : Nat) : Int) (if x.f0 ≤ at' ∧ x.f1 = 2 then (k : Int) else fi) by rw [hrest.out, hdrop]; rfl)
      clear hgl hrd hdrop hg hrest
      obtain ⟨f0, f1, f2, f3⟩ := x
      dsimp only at hx0 hx1 hx2 hx3 hc3 HS
      by_cases q0 : f0 ≤ at'
      · have d0 : decide (f0 ≤ at') = true := decide_eq_true q0
        by_cases q1 : f1 = 2
        · rw [if_pos ⟨q0, q1⟩] at HS
          subst q1
          clear q0
          go_wp2
          exact ⟨⟨k + 1, k, by omega, by first | rfl | simp, rfl, ⟨hbel.out.keep ((Below.refl _ _).alloc (Nat.le_refl _) _)⟩, HS⟩, by simp [intOf]; omega⟩
        · rw [if_neg (fun h => q1 h.2)] at HS
          have d1 : (f1 == 2) = false := by simpa using q1
          clear q0 q1
          go_wp2
          exact ⟨⟨k + 1, fi, by omega, by first | rfl | simp, rfl, ⟨hbel.out.keep ((Below.refl _ _).alloc (Nat.le_refl _) _)⟩, HS⟩, by simp [intOf]; omega⟩
      · rw [if_neg (fun h => q0 h.1)] at HS
        have d0 : decide (f0 ≤ at') = false := decide_eq_false q0
        clear q0
        go_wp2
        exact ⟨⟨k + 1, fi, by omega, by first | rfl | simp, rfl, ⟨hbel.out.keep ((Below.refl _ _).alloc (Nat.le_refl _) _)⟩, HS⟩, by simp [intOf]; omega⟩
    · have hfi := hrest.out
      rw [List.drop_of_length_le (show ls.length ≤ k by omega)] at hfi
      have HFI := Aside0.mk (show firstL at' ls 0 (-1) = fi from hfi)
      clear hfi hrest
      have d0 : decide (fi < 0) = true := decide_eq_true (by rw [← HFI.out]; exact HF.out)
      go_wp2_with (first | (go_at_call 51; (with_reducible refine (fail_true _ _).mono ?_); rintro e w2 ⟨rfl, rfl⟩))
      exact door3_fails (by decide) (fun w' hb => ⟨rfl, hb⟩) hbel.out rfl rfl rfl rfl
end Go.Proofs.YtgkebfeggekkgaaDoor.Given
