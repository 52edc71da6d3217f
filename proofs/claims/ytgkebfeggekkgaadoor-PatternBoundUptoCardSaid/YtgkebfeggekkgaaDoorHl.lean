/- The contract of Walk. -/
import Derived.Test.YtgkebfeggekkgaaDoorJ7
import Derived.Deep.RegionHeld3
import Derived.Laws.EntriesVeiled
set_option linter.unusedVariables false
set_option linter.unusedSimpArgs false
namespace Go.Proofs.YtgkebfeggekkgaaDoor.Given
open Go.RowKit Go.Proofs.YtgkebfeggekkgaaDoor.PT Go.Proofs.YtgkebfeggekkgaaDoorW.PrintWords Go.Proofs.YtgkebfeggekkgaaDoorW.PrintLast Go.Proofs.YtgkebfeggekkgaaDoorW.PrintMore

def QP (D : List Deferred) (v2 v3 : Value) (C : List PanicEntry → World → Prop) : Exit → Act → World → Prop
  | .panic c, a, w => C c w ∧ a.defers = D ∧ a.tmps.getD 2 undef = v2 ∧ a.tmps.getD 3 undef = v3
  | _, _, _ => False
theorem QP_put {D : List Deferred} {v2 v3 : Value} {C : List PanicEntry → World → Prop} {d : Nat} {v : Value} (h2 : d ≠ 2) (h3 : d ≠ 3) : ∀ c a w, QP D v2 v3 C (.panic c) (a.put (some d) v) w → QP D v2 v3 C (.panic c) a w := by
  intro c a w ⟨h, hd, e2, e3⟩
  refine ⟨h, hd, ?_, ?_⟩
  · simpa [Act.put, Array.getD_eq_getD_getElem?, Array.getElem?_setIfInBounds, h2] using e2
  · simpa [Act.put, Array.getD_eq_getD_getElem?, Array.getElem?_setIfInBounds, h3] using e3
theorem wpOp_of {P : Program} {ops : Array Oper} {Q : Exit → Act → World → Prop} {i : Nat} {o : Oper} {K : Act → World → Prop} {a : Act} {w : World} (hi : ops[i]? = some o) (hw : Region.wanted o (yielded ops a.tmps) = true)
    (h : o.wp P a w K Q) : wpOp P ops Q i K a w := by
  unfold wpOp
  simp only [hi, hw, if_true]
  exact .inl h
theorem info37 : (Tryd.prog.info? 37).map (fun i => (i.zero, i.size, i.bytes)) = some (some (.slice none 0 0), 1, 24) := by kernel_rfl
/-- a row of integers stands when a cell is written that holds a slice -/
theorem C_setI {W : World} {A : Option Addr} {l : List Int} {p : Addr} {B : Option Addr} {m c : Nat} {v : Value} (h : Kd.C kI W A l.length l) (hp : W.cell? p = some (.slice B m c)) : Kd.C kI (W.setCell p v) A l.length l := by
  refine ⟨h.1, h.2.1, fun h0 => ?_⟩
  obtain ⟨ad, e, hc⟩ := h.2.2 h0
  refine ⟨ad, e, fun j x hj => ?_⟩
  obtain ⟨cs, hl, hk, hx⟩ := hc j x hj
  refine ⟨cs, hl, hk, fun i u hu => ?_⟩
  have hcs : cs = [Value.int .i64 x] := hk
  have h1 := hx i u hu
  have hne : ad.add (j * kI.sz + i) ≠ p := by
    intro he
    rw [he, hp] at h1
    subst hcs
    rcases i with _ | i
    · simp at hu
      subst hu
      cases h1
    · simp at hu
  exact (World.cell?_setCell_other _ _ _ _ (Ne.symm hne)).trans h1
/-- the world while the actions are gathered: of the first ones the row has them -/
def WA (w W : World) (ds : List (List Int)) (k : Nat) : Prop :=
  Rd w.heap.size w W (.slice none 0 0) (.int .i64 0) ∧ W.cell? ⟨w.heap.size + 1 + 1 + 1, 0, none⟩ = some (.slice (some ⟨w.heap.size + 1 + 1, 0, none⟩) ds.length ds.length) ∧
  (∀ j, j < ds.length → W.frozen? ⟨w.heap.size + 1 + 1, j, none⟩ = false ∧ ∃ B m c, W.cell? ⟨w.heap.size + 1 + 1, j, none⟩ = some (.slice B m c)) ∧
  ∀ (j : Nat) (h : j < ds.length), j < k → ∃ A c, W.cell? ⟨w.heap.size + 1 + 1, j, none⟩ = some (.slice A ds[j].length c) ∧ Kd.C kI W A ds[j].length ds[j]
theorem WA.size {w W : World} {ds : List (List Int)} {k : Nat} (h : WA w W ds k) : w.heap.size + 4 ≤ W.heap.size := by
  have := World.block_lt_of_cell? W _ h.2.1
  simp only [] at this
  omega
theorem WA.keep {w W W' : World} {ds : List (List Int)} {k : Nat} (h : WA w W ds k) (hb : Below W.heap.size W W') : WA w W' ds k := by
  have hs := h.size
  obtain ⟨h1, h2, h3, h4⟩ := h
  refine ⟨h1.keep hb (Nat.le_refl _), (bcell hb (by omega)).trans h2, fun j hj => ?_, fun j hj hk => ?_⟩
  · obtain ⟨h5, B, m, c, h6⟩ := h3 j hj
    exact ⟨(bfrozen hb (by omega)).trans h5, B, m, c, (bcell hb (by omega)).trans h6⟩
  · obtain ⟨A, c, h5, h6⟩ := h4 j hj hk
    exact ⟨A, c, (bcell hb (by omega)).trans h5, Kd.C_below h6 hb⟩
theorem WA.set {w W : World} {ds : List (List Int)} {k : Nat} {A : Option Addr} {c : Nat} (h : WA w W ds k) (hk : k < ds.length) (hC : Kd.C kI W A ds[k].length ds[k]) :
    WA w (W.setCell ⟨w.heap.size + 1 + 1, k, none⟩ (.slice A ds[k].length c)) ds (k + 1) := by
  have hs := h.size
  obtain ⟨⟨hB, c0, c1, f0, f1⟩, h2, h3, h4⟩ := h
  obtain ⟨_, B0, m0, c0', hx⟩ := h3 k hk
  have n0 : ¬ w.heap.size = w.heap.size + 1 + 1 := by omega
  have n2 : ¬ w.heap.size + 1 + 1 + 1 = w.heap.size + 1 + 1 := by omega
  refine ⟨⟨hB.setCell (p := ⟨w.heap.size + 1 + 1, k, none⟩) (by simp; omega) _, ?_, ?_, ?_, ?_⟩, ?_, fun j hj => ?_, fun j hj hjk => ?_⟩
  · simp [go_sem, c0]
  · simp [go_sem, c1]
  · simp [go_sem, f0]
  · simp [go_sem, f1]
  · simp [go_sem, h2]
  · obtain ⟨h5, B, m, cc, h6⟩ := h3 j hj
    refine ⟨by simp [go_sem, h5], ?_⟩
    by_cases hjk : j = k
    · subst hjk
      exact ⟨A, ds[j].length, c, by simp [go_sem, hx]⟩
    · exact ⟨B, m, cc, by simp [go_sem, h6, hjk]⟩
  · by_cases hj2 : j = k
    · subst hj2
      exact ⟨A, c, by simp [go_sem, hx], C_setI hC hx⟩
    · obtain ⟨A', c', h5, h6⟩ := h4 j hj (by omega)
      exact ⟨A', c', by simp [go_sem, h5, hj2], C_setI h6 hx⟩
theorem gin57 : GuardIn 57 := fun args w => by simp [go_sem]
theorem res24 : DoorResults Tryd.f24 2 3 := by
  intro t W g x u h2 h3 c0 c1
  have hu37 := Tryd.underlying37
  have hu25 := Tryd.underlying25
  have e2 : t[2]?.getD undef = .pointer (some ⟨g, 0, none⟩) := by simpa [Array.getD_eq_getD_getElem?] using h2
  have e3 : t[3]?.getD undef = .pointer (some ⟨g + 1, 0, none⟩) := by simpa [Array.getD_eq_getD_getElem?] using h3
  simp [results, Tryd.results24, go_sem, e2, e3, c0, c1]
theorem Rd.set0 {w W : World} {x u : Value} (h : Rd w.heap.size w W x u) (v : Value) : Rd w.heap.size w (W.setCell ⟨w.heap.size, 0, none⟩ v) v u := by
  obtain ⟨hB, c0, c1, f0, f1⟩ := h
  refine ⟨hB.setCell (p := ⟨w.heap.size, 0, none⟩) (Nat.le_refl _) v, ?_, ?_, ?_, ?_⟩
  all_goals simp [go_sem, c0, c1, f0, f1]
/-- a row made behind the door's cells stands when these are written, the first one twice -/
theorem R_storedI {w W : World} {base : Nat} {v y x u : Value} {l : List Int} (h : Kd.R kI 3 W base (fun _ => True) v l) (hb : w.heap.size + 2 ≤ base) :
    Kd.R kI 3 (((W.setCell ⟨w.heap.size, 0, none⟩ y).setCell ⟨w.heap.size, 0, none⟩ x).setCell ⟨w.heap.size + 1, 0, none⟩ u) w.heap.size (fun _ => True) v l := by
  have h1 := Kd.R_bound h
  have h2 := Kd.R_far h1 (p := ⟨w.heap.size, 0, none⟩) (fun k hk => by have := hk.2.1; simp only; omega) y
  have h3 := Kd.R_far h2 (p := ⟨w.heap.size, 0, none⟩) (fun k hk => by have := hk.2.1; simp only; omega) x
  have h4 := Kd.R_far h3 (p := ⟨w.heap.size + 1, 0, none⟩) (fun k hk => by have := hk.2.1; simp only; omega) u
  exact Kd.R_lower (Kd.R_mono h4 (fun _ _ => trivial)) (by omega)
def IntsPost (w : World) (l : List Int) (z : Int) (e : Ending) (w' : World) : Prop := ∃ v, e = .returned (.tuple #[v, .int .i64 z]) ∧ Kd.R kI 3 w' w.heap.size (fun _ => True) v l ∧ Below w.heap.size w w'
def actsOf (ls : List S39) : List (List Int) := ls.map fun d => actL d.f0 d.f1
def walkF (ls : List S39) : List Int × Int :=
  if 40 < ls.length then ([], 2)
  else if ls.all (fun d => actOk d.f0 d.f1) = true then (if (walkL (actsOf ls)).2 = true then ((walkL (actsOf ls)).1, 0) else ([], 2)) else ([], 1)
theorem actL_len (b : Bool) (l : List Int) : (actL b l).length ≤ l.length + 1 := by
  unfold actL
  split <;> simp
theorem rd39 (ls : List S39) (i : Nat) (h : i < ls.length) : rd_T39 ls (i : Int) = ls[i] := by
  unfold rd_T39
  simp [h]
set_option maxRecDepth 100000 in
set_option maxHeartbeats 1000000 in
theorem walk_long (A : Option Addr) (c : Nat) (ls : List S39) (w : World) (h : 40 < ls.length) : Calls Tryd.prog 24 #[.slice A ls.length c] w (IntsPost w [] 2) := by
  have HV : Rd w.heap.size w (wD (.slice none 0 0) 37 w) (.slice none 0 0) (.int .i64 0) := Rd_of (Below.refl _ _)
  have HV := Aside0.mk HV
  have hd : decide (40 < ls.length) = true := decide_eq_true h
  have hd2 : decide ((40 : Int) < (ls.length : Int)) = true := decide_eq_true (by omega)
  clear h
  go_enter_defers Tryd.func24, Tryd.ntmps24
  go_wp2_with (first | (go_at_call 51; (with_reducible refine (fail_true _ _).mono ?_); rintro e w1 ⟨rfl, rfl⟩))
  exact door_fails (fn := Tryd.f24) (p := 2) (q := 3) gin57 guardInts_fails res24 (fun w' hb => ⟨_, rfl, Kd.R_nil _ _ _ _ _, hb⟩) (Nat.le_refl _) HV.out rfl rfl rfl
/-- the world behind the row's blocks -/
def wA (w : World) (n : Nat) : World := ((wD (.slice none 0 0) 37 w).alloc (.cells (madeCells #[.slice none 0 0] n) 37)).alloc (.cells #[.slice (some ⟨w.heap.size + 1 + 1, 0, none⟩) n n] 82)
theorem WA_start (w : World) (ds : List (List Int)) : WA w (wA w ds.length) ds 0 := by
  refine ⟨Rd_of ((((Below.refl _ _).alloc (by simp [wD]) _).alloc (by simp [wD]) _)), ?_, fun j hj => ⟨?_, none, 0, 0, ?_⟩, fun j hj h0 => by omega⟩
  · simp [wA, wD, go_sem]
  · simp [wA, wD, go_sem]
  · simp [wA, wD, go_sem, madeCells, hj, Nat.mod_one]
/-- what the region that stores the actions reads -/
def SW (g L D : Nat) (f0 : Bool) (A1 : Option Addr) (n c1 : Nat) (W : World) : Prop :=
  W.cell? ⟨g + 1 + 1 + 1, 0, none⟩ = some (.slice (some ⟨g + 1 + 1, 0, none⟩) L L) ∧ W.cell? ⟨D, 0, none⟩ = some (.bool f0) ∧ W.cell? ⟨D, 1, none⟩ = some (.slice A1 n c1)
theorem SW.keep {g L D : Nat} {f0 : Bool} {A1 : Option Addr} {n c1 : Nat} {W W' : World} (h : SW g L D f0 A1 n c1 W) (hb : Below W.heap.size W W') : SW g L D f0 A1 n c1 W' :=
  ⟨(bcell hb (World.block_lt_of_cell? W _ h.1)).trans h.1, (bcell hb (World.block_lt_of_cell? W _ h.2.1)).trans h.2.1, (bcell hb (World.block_lt_of_cell? W _ h.2.2)).trans h.2.2⟩
theorem walkF_bad (ls : List S39) (h : ls.length ≤ 40) (j : Nat) (hj : j < ls.length) (hb : actOk ls[j].f0 ls[j].f1 = false) : walkF ls = ([], 1) := by
  unfold walkF
  rw [if_neg (by omega), if_neg]
  intro hall
  rw [List.all_eq_true] at hall
  have := hall ls[j] (List.getElem_mem _)
  rw [hb] at this
  cases this
set_option maxRecDepth 100000 in
set_option maxHeartbeats 1000000 in
theorem walk_short (A : Option Addr) (c : Nat) (ls : List S39) (w : World) (hr : Kd.C k39 w A ls.length ls) (h : ls.length ≤ 40) (hlen : ∀ d ∈ ls, d.f1.length ≤ 1073741823) : Calls Tryd.prog 24 #[.slice A ls.length c] w (IntsPost w (walkF ls).1 (walkF ls).2) := by
  have HR := Aside0.mk hr
  have hd : decide (40 < ls.length) = false := decide_eq_false (by omega)
  have hd2 : decide ((40 : Int) < (ls.length : Int)) = false := decide_eq_false (by omega)
  have hmk := print_make_of 82 37 (.slice none 0 0) 24 Tryd.underlying82 info37 rfl (by decide) ls.length (by omega)
  have HW0 : Aside0 (WA w (wA w ls.length) (actsOf ls) 0) := ⟨by have := WA_start w (actsOf ls); rwa [show (actsOf ls).length = ls.length from by simp [actsOf]] at this⟩
  have HLE := Aside0.mk hlen
  have hu39 := Tryd.underlying39
  have hu82 := Tryd.underlying82
  clear hr hlen
  go_enter_defers Tryd.func24, Tryd.ntmps24
  go_wp2_with (first | (go_at_call 51; (with_reducible refine (fail_false _ _).mono ?_); rintro e w1 ⟨rfl, rfl⟩))
  go_loopw [18] (fun i W => ∃ k : Nat, k ≤ ls.length ∧ i = .int .i64 k ∧ Aside0 (WA w W (actsOf ls) k) ∧ Aside0 (∀ (j : Nat) (h : j < ls.length), j < k → actOk ls[j].f0 ls[j].f1 = true)) (fun i _ => ls.length - (intOf i).toNat)
  case atStart => exact ⟨0, Nat.zero_le _, rfl, HW0, ⟨fun j _ h => by omega⟩⟩
  case round =>
    obtain ⟨k, hk, rfl, hWA, hOK⟩ := hrel
    by_cases hlt : k < ls.length
    · obtain ⟨ad, A1, c1, rfl, hx0, hx1, hc1, hg⟩ := at_T39 (Kd.C_below HR.out hWA.out.1.1) (k : Int) (by omega) (by omega)
      rw [Int.toNat_natCast] at hx0 hx1
      have hrd := rd39 ls k hlt
      have hl1 := HLE.out ls[k] (List.getElem_mem _)
      rw [← hrd] at hl1
      generalize hgl : rd_T39 ls (k : Int) = x at hx0 hx1 hc1 hg hrd hl1
      have HRD := Aside0.mk hrd
      have HG := Aside0.mk hg
      have hsz := hWA.out.size
      clear hgl hrd hg hl1
      obtain ⟨f0, f1⟩ := x
      dsimp only at hx0 hx1 hc1 HG
      go_wp2_with (fail)
      have hlen' : (actsOf ls).length = ls.length := by simp [actsOf]
      cases hok : actOk f0 f1 with
      | false =>
        refine wp_mono (Q := QP (defsG 57 w.heap.size) (.pointer (some ⟨w.heap.size, 0, none⟩)) (.pointer (some ⟨w.heap.size + 1, 0, none⟩)) (fun ch w1 => ch = failE 1 ∧ WA w w1 (actsOf ls) k)) ?_ ?_
        refine wp_region_held (S := SW w.heap.size ls.length wr.heap.size f0 A1 f1.length c1) (by kernel_rfl) ?_
        have hW1 : WA w (wr.alloc (.cells #[.bool f0, .slice A1 f1.length c1] 39)).drew (actsOf ls) k := (hWA.out.keep ((Below.refl _ _).alloc (Nat.le_refl _) _)).keep (below_drew (Below.refl _ _))
        have hB1 : Below wr.heap.size wr (wr.alloc (.cells #[.bool f0, .slice A1 f1.length c1] 39)).drew := below_drew ((Below.refl _ _).alloc (Nat.le_refl _) _)
        have hS : SW w.heap.size ls.length wr.heap.size f0 A1 f1.length c1 (wr.alloc (.cells #[.bool f0, .slice A1 f1.length c1] 39)).drew :=
          ⟨hlen' ▸ hW1.2.1, by simp [go_sem], by simp [go_sem]⟩
        change wpAnyH _ _ _ _ _ _ _ _ (wr.alloc (.cells #[.bool f0, .slice A1 f1.length c1] 39)).drew
        generalize (wr.alloc (.cells #[.bool f0, .slice A1 f1.length c1] 39)).drew = W at hW1 hB1 hS ⊢
        refine wpAnyH_take (i := 0) (v := .slice (some ⟨w.heap.size + 1 + 1, 0, none⟩) ls.length ls.length) rfl (by kernel_rfl) (by kernel_rfl) (by kernel_rfl) (QP_put (by decide) (by decide)) (.inl ⟨by rfl, fun w' hw' => by obtain ⟨s0, s1, s2⟩ := hw'; go_simp⟩) hS ?_
        refine wpAnyH_take (i := 1) (v := .int .i64 k) rfl (by kernel_rfl) (by kernel_rfl) (by kernel_rfl) (QP_put (by decide) (by decide)) (.inl ⟨by rfl, fun w' hw' => by obtain ⟨s0, s1, s2⟩ := hw'; go_simp⟩) hS ?_
        refine wpAnyH_take (i := 2) (v := .agg #[.bool f0, .slice A1 f1.length c1]) rfl (by kernel_rfl) (by kernel_rfl) (by kernel_rfl) (QP_put (by decide) (by decide)) (.inl ⟨by rfl, fun w' hw' => by obtain ⟨s0, s1, s2⟩ := hw'; go_simp⟩) hS ?_
        refine wpAnyH_all (rs := [3]) (by kernel_rfl) (by simp) ?_
        intro i hi
        obtain rfl : i = 3 := by simpa using hi
        refine wpOp_of rfl (by rfl) ?_
        go_simp
        refine (actions_bad f0 A1 c1 f1 W (Kd.C_below HG.out hB1) hok).mono ?_
        rintro e w' ⟨rfl, hb⟩
        exact ⟨⟨rfl, hW1.keep hb⟩, rfl, rfl, rfl⟩
        · intro e a' w1 hq
          cases e with
          | panic ch =>
            obtain ⟨⟨rfl, hb⟩, hdf, h4, h5⟩ := hq
            show bodyPostD Tryd.prog Tryd.f24 (IntsPost w (walkF ls).1 (walkF ls).2) (.panic (failE 1)) a' w1
            rw [walkF_bad ls h k hlt (by rw [← HRD.out]; exact hok)]
            exact door_fails (fn := Tryd.f24) (p := 2) (q := 3) gin57 guardInts_fails res24 (fun w' hb => ⟨_, rfl, Kd.R_nil _ _ _ _ _, hb⟩) (Nat.le_refl _) hb.1 hdf h4 h5
          | normal => exact hq.elim
          | exit id => exact hq.elim
          | goto l => exact hq.elim
          | ret => exact hq.elim
          | outgrown => exact hq.elim
      | true =>
        refine wp_region_noPanic ?_
        refine wp_region_held (S := SW w.heap.size ls.length wr.heap.size f0 A1 f1.length c1) (by kernel_rfl) ?_
        have hW1 : WA w (wr.alloc (.cells #[.bool f0, .slice A1 f1.length c1] 39)).drew (actsOf ls) k := (hWA.out.keep ((Below.refl _ _).alloc (Nat.le_refl _) _)).keep (below_drew (Below.refl _ _))
        have hB1 : Below wr.heap.size wr (wr.alloc (.cells #[.bool f0, .slice A1 f1.length c1] 39)).drew := below_drew ((Below.refl _ _).alloc (Nat.le_refl _) _)
        have hS : SW w.heap.size ls.length wr.heap.size f0 A1 f1.length c1 (wr.alloc (.cells #[.bool f0, .slice A1 f1.length c1] 39)).drew :=
          ⟨hlen' ▸ hW1.2.1, by simp [go_sem], by simp [go_sem]⟩
        change wpAnyH _ _ _ _ _ _ _ _ (wr.alloc (.cells #[.bool f0, .slice A1 f1.length c1] 39)).drew
        generalize (wr.alloc (.cells #[.bool f0, .slice A1 f1.length c1] 39)).drew = W at hW1 hB1 hS ⊢
        refine wpAnyH_take (i := 0) (v := .slice (some ⟨w.heap.size + 1 + 1, 0, none⟩) ls.length ls.length) rfl (by kernel_rfl) (by kernel_rfl) (by kernel_rfl) (fun _ _ _ h => h) (.inl ⟨by rfl, fun w' hw' => by obtain ⟨s0, s1, s2⟩ := hw'; go_simp⟩) hS ?_
        refine wpAnyH_take (i := 1) (v := .int .i64 k) rfl (by kernel_rfl) (by kernel_rfl) (by kernel_rfl) (fun _ _ _ h => h) (.inl ⟨by rfl, fun w' hw' => by obtain ⟨s0, s1, s2⟩ := hw'; go_simp⟩) hS ?_
        refine wpAnyH_take (i := 2) (v := .agg #[.bool f0, .slice A1 f1.length c1]) rfl (by kernel_rfl) (by kernel_rfl) (by kernel_rfl) (fun _ _ _ h => h) (.inl ⟨by rfl, fun w' hw' => by obtain ⟨s0, s1, s2⟩ := hw'; go_simp⟩) hS ?_
        refine wpAnyH_all (rs := [3]) (by kernel_rfl) (by simp) ?_
        intro i hi
        obtain rfl : i = 3 := by simpa using hi
        refine wpOp_of rfl (by rfl) ?_
        go_simp
        refine (actions_ok f0 A1 c1 f1 W (Kd.C_below HG.out hB1) hc1 hok).mono ?_
        rintro e w2 ⟨A2, c2, rfl, hc2, hC2, hb⟩
        have hS2 := hS.keep hb
        have hW2 := hW1.keep hb
        have hacts : (actsOf ls)[k]'(by rw [hlen']; exact hlt) = actL f0 f1 := by simp [actsOf, ← HRD.out]
        have hC3 : Kd.C kI w2 A2 ((actsOf ls)[k]'(by rw [hlen']; exact hlt)).length ((actsOf ls)[k]'(by rw [hlen']; exact hlt)) := by rw [hacts]; exact hC2
        have hW3 := hW2.set (A := A2) (c := c2) (by rw [hlen']; exact hlt) hC3
        rw [hacts] at hW3
        clear hC3
        refine ⟨hS2, ?_⟩
        refine wpAnyH_take (i := 4) (v := .pointer (some ⟨w.heap.size + 1 + 1, k, none⟩)) rfl (by kernel_rfl) (by kernel_rfl) (by kernel_rfl) (fun _ _ _ h => h) (.inl ⟨by rfl, fun w' hw' => by go_simp⟩) hS2 ?_
        refine wpAnyH_all (rs := [5]) (by kernel_rfl) (by simp) ?_
        intro i hi
        obtain rfl : i = 5 := by simpa using hi
        refine wpOp_of rfl (by rfl) ?_
        obtain ⟨hfz, B0, m0, c0, hx⟩ := hW2.2.2.1 k (by rw [hlen']; exact hlt)
        have hu37 := Tryd.underlying37
        generalize (actL f0 f1).length = n2 at hW3
        go_simp
        refine ⟨⟨(World.cell?_setCell_far _ _ _ _ (by simp)).trans hS2.1, (World.cell?_setCell_far _ _ _ _ (by simp; omega)).trans hS2.2.1, (World.cell?_setCell_far _ _ _ _ (by simp; omega)).trans hS2.2.2⟩, ?_⟩
        refine wpAnyH_done (by kernel_rfl) (NoPanic.normal ?_) _
        have HN := Aside0.mk (show ∀ (j : Nat) (h : j < ls.length), j < k + 1 → actOk ls[j].f0 ls[j].f1 = true from fun j hj hjk => by
          by_cases hjk2 : j = k
          · subst hjk2
            rw [← HRD.out]
            exact hok
          · exact hOK.out j hj (by omega))
        have HW3 := Aside0.mk hW3
        clear hx hfz hW3 hW2 hS2 hb hacts hC2 hS hB1 hW1 hOK
        generalize w2.setCell ⟨w.heap.size + 1 + 1, k, none⟩ (.slice A2 n2 c2) = W3 at HW3 ⊢
        go_wp2_with (fail)
        exact ⟨⟨k + 1, by omega, by first | rfl | simp, HW3, HN⟩, by simp [intOf]; omega⟩
    · have hke : k = ls.length := by omega
      subst hke
      have hlen' : (actsOf ls).length = ls.length := by simp [actsOf]
      have hmf : ∀ (fn : Fn) (first cap : Array Value) (w : World), (Instr.makeFunc fn first cap).run Tryd.prog w = .ok (.func fn first cap) w := fun _ _ _ _ => rfl
      have hall : ls.all (fun d => actOk d.f0 d.f1) = true := by
        rw [List.all_eq_true]
        intro d hd'
        obtain ⟨j, hj, rfl⟩ := List.getElem_of_mem hd'
        exact hOK.out j hj hj
      have hwF : walkF ls = if (walkL (actsOf ls)).2 = true then ((walkL (actsOf ls)).1, 0) else ([], 2) := by
        unfold walkF
        rw [if_neg (by omega), if_pos hall]
      have hIn : WalkIn (wr.alloc (.cells #[.func (.func 59) #[] #[.pointer (some ⟨w.heap.size + 1 + 1 + 1, 0, none⟩), .pointer (some ⟨wr.heap.size, 0, none⟩)]] 84)) (w.heap.size + 1 + 1) (w.heap.size + 1 + 1 + 1) wr.heap.size (actsOf ls) := by
        have h1 := hWA.out.keep ((Below.refl wr.heap.size wr).alloc (Nat.le_refl _) (.cells #[.func (.func 59) #[] #[.pointer (some ⟨w.heap.size + 1 + 1 + 1, 0, none⟩), .pointer (some ⟨wr.heap.size, 0, none⟩)]] 84))
        exact ⟨h1.2.1, by simp [go_sem], fun j hj => h1.2.2.2 j hj (by omega)⟩
      have HCL0 := (walk_closure hIn (by
        intro a ha
        simp only [actsOf, List.mem_map] at ha
        obtain ⟨d, hd1, rfl⟩ := ha
        have := actL_len d.f0 d.f1
        have := HLE.out d hd1
        omega) (by omega) (actsOf ls).length 0 (by omega) _ (Below.refl _ _))
      rw [List.drop_zero] at HCL0
      have HCL : Aside0 (Calls Tryd.prog 59 #[.int .i64 (0 : Int), .pointer (some ⟨w.heap.size + 1 + 1 + 1, 0, none⟩), .pointer (some ⟨wr.heap.size, 0, none⟩)] (wr.alloc (.cells #[.func (.func 59) #[] #[.pointer (some ⟨w.heap.size + 1 + 1 + 1, 0, none⟩), .pointer (some ⟨wr.heap.size, 0, none⟩)]] 84)) (FillPost (walkL (actsOf ls)) (wr.alloc (.cells #[.func (.func 59) #[] #[.pointer (some ⟨w.heap.size + 1 + 1 + 1, 0, none⟩), .pointer (some ⟨wr.heap.size, 0, none⟩)]] 84)))) := ⟨HCL0⟩
      clear HCL0
      have hsz := hWA.out.size
      have HRd : Aside0 (∀ W, Below (wr.heap.size + 1) (wr.alloc (.cells #[.func (.func 59) #[] #[.pointer (some ⟨w.heap.size + 1 + 1 + 1, 0, none⟩), .pointer (some ⟨wr.heap.size, 0, none⟩)]] 84)) W → Rd w.heap.size w W (.slice none 0 0) (.int .i64 0)) :=
        ⟨fun W hb => (hWA.out.1.keep ((Below.refl wr.heap.size wr).alloc (Nat.le_refl _) _) (Nat.le_refl _)).keep (hb.mono (by simp)) (Nat.le_refl _)⟩
      clear hall hOK hIn hlen'
      generalize walkL (actsOf ls) = r at HCL hwF
      obtain ⟨r1, r2⟩ := r
      have hu37 := Tryd.underlying37
      have hu25 := Tryd.underlying25
      have hu84 := Tryd.underlying84
      cases r2 with
      | false =>
        have HWF := Aside0.mk (show walkF ls = ([], 2) from hwF)
        clear hwF
        go_wp2_with (first | (go_at_call 59; (with_reducible refine HCL.out.mono ?_); rintro e w1 ⟨v1, rfl, hR1, hB1⟩; obtain ⟨A1, c1, rfl, hc1, hC1⟩ := Kd.R_reads hR1; generalize r1.length = n1 at hR1; have HR1 := Aside0.mk (Kd.R_lower hR1 (show wr.heap.size ≤ _ by simp)); have hq := HRd.out w1 (hB1.mono (by simp)); have HD := Aside0.mk hq; obtain ⟨hqB, d0, d1, g0, g1⟩ := hq; clear hB1 hR1 hC1 hc1 hqB) | (go_at_call 51; (with_reducible refine (fail_true _ _).mono ?_); rintro e w2 ⟨rfl, rfl⟩))
        rw [HWF.out]
        exact door_fails (fn := Tryd.f24) (p := 2) (q := 3) gin57 guardInts_fails res24 (fun w' hb => ⟨_, rfl, Kd.R_nil _ _ _ _ _, hb⟩) (Nat.le_refl _) (HD.out.set0 _) rfl rfl rfl
      | true =>
        have HWF := Aside0.mk (show walkF ls = (r1, 0) from hwF)
        clear hwF
        go_wp2_with (first | (go_at_call 59; (with_reducible refine HCL.out.mono ?_); rintro e w1 ⟨v1, rfl, hR1, hB1⟩; obtain ⟨A1, c1, rfl, hc1, hC1⟩ := Kd.R_reads hR1; generalize r1.length = n1 at hR1; have HR1 := Aside0.mk (Kd.R_lower hR1 (show wr.heap.size ≤ _ by simp)); have hq := HRd.out w1 (hB1.mono (by simp)); have HD := Aside0.mk hq; obtain ⟨hqB, d0, d1, g0, g1⟩ := hq; clear hB1 hR1 hC1 hc1 hqB) | (go_at_call 51; (with_reducible refine (fail_false _ _).mono ?_); rintro e w2 ⟨rfl, rfl⟩))
        rw [HWF.out]
        exact door_stored' (fn := Tryd.f24) (p := 2) (q := 3) gin57 guardInts_idle res24 (HD.out.set0 _) (fun hb => ⟨_, rfl, R_storedI HR1.out (by omega), hb⟩) rfl rfl rfl
/-- where the contract speaks: no do-part has more actions than fit into memory -/
def actsSmall (ls : List S39) : Bool := ls.all fun d => decide (d.f1.length ≤ 1073741823)
def pattern_Walk.f (ls : List S39) : Option (List Int × Int) := if actsSmall ls = true then some (walkF ls) else none
theorem pattern_Walk.calls (A0 : Option Addr) (c0 : Nat) (l0 : List S39) (r1 : List Int) (r2 : Int) (w : World) (hr0 : Kd.C k39 w A0 l0.length l0) (hc0 : l0.length ≤ c0) (h : pattern_Walk.f l0 = some (r1, r2)) :
    Calls Tryd.prog 24 #[.slice A0 l0.length c0] w fun e w' => ∃ v0_ : Value, e = .returned (.tuple #[v0_, .int .i64 r2]) ∧ Kd.R (Kd.int .i64) 3 w' w.heap.size (fun _ => True) v0_ r1 ∧ Below w.heap.size w w' := by
  unfold pattern_Walk.f at h
  split at h
  · rename_i hs
    have hw : walkF l0 = (r1, r2) := Option.some.inj h
    by_cases h40 : 40 < l0.length
    · have := walk_long A0 c0 l0 w h40
      unfold walkF at hw
      rw [if_pos h40] at hw
      cases hw
      exact this
    · have := walk_short A0 c0 l0 w hr0 (by omega) (fun d hd => by
        unfold actsSmall at hs
        rw [List.all_eq_true] at hs
        exact of_decide_eq_true (hs d hd))
      rw [hw] at this
      exact this
  · cases h
end Go.Proofs.YtgkebfeggekkgaaDoor.Given
