/- PatternMerges' plain law: merged and missing do-parts change no walk, merging is associative. -/
import Derived.Test.YtgkebfeggekkgaaDoorHn
import Derived.Test.YtgkebfeggekkgaaDoorPTx0
section
set_option linter.unusedVariables false
set_option linter.unusedSimpArgs false
namespace Go.Proofs.YtgkebfeggekkgaaDoor.Given
open Go.RowKit Go.Proofs.YtgkebfeggekkgaaDoor.PT Go.Proofs.YtgkebfeggekkgaaDoorW.PrintWords Go.Proofs.YtgkebfeggekkgaaDoorW.PrintLast Go.Proofs.YtgkebfeggekkgaaDoorW.PrintMore

theorem fillBad_iff (a b : List Int) (ok : Bool) : fillBad a b ok = false ↔ (innersN a = 0 ∨ ok = true) ∧ (fillL b a).length ≤ 2000 := by
  have hl := fillL_len b a
  have hn := innersN_le a
  unfold fillBad
  simp only [Bool.or_eq_false_iff, Bool.and_eq_false_imp, decide_eq_true_eq, decide_eq_false_iff_not, Bool.or_eq_false_iff, Bool.not_eq_false']
  constructor
  · rintro ⟨h1, h2⟩
    by_cases h0 : innersN a = 0
    · rw [h0, Nat.zero_mul] at hl
      exact ⟨.inl h0, by omega⟩
    · obtain ⟨h3, h4⟩ := h1 (by omega)
      exact ⟨.inr h3, by omega⟩
  · rintro ⟨h1, h2⟩
    refine ⟨fun h0 => ⟨h1.resolve_left (by omega), by omega⟩, by omega⟩
theorem fill_of {a b : List Int} {ok : Bool} (h1 : innersN a = 0 ∨ ok = true) (h2 : (fillL b a).length ≤ 2000) : fillF a b ok = (fillL b a, true) := by
  unfold fillF
  rw [(fillBad_iff a b ok).2 ⟨h1, h2⟩, if_neg (by decide)]
theorem fill_ok {a b : List Int} {ok : Bool} (h : (fillF a b ok).2 = true) : fillF a b ok = (fillL b a, true) ∧ (innersN a = 0 ∨ ok = true) ∧ (fillL b a).length ≤ 2000 := by
  cases hb : fillBad a b ok with
  | true =>
    unfold fillF at h
    rw [if_pos hb] at h
    cases h
  | false =>
    obtain ⟨h1, h2⟩ := (fillBad_iff a b ok).1 hb
    exact ⟨fill_of h1 h2, h1, h2⟩
theorem fillL_none (b : List Int) : ∀ a, innersN a = 0 → fillL b a = a
  | [], _ => rfl
  | x :: r, h => by
    rw [innersN_cons] at h
    rw [fillL_cons]
    by_cases hx : x = -1
    · rw [if_pos hx] at h
      omega
    · rw [if_neg hx] at h ⊢
      rw [fillL_none b r h]
theorem fillL_fillL (r b : List Int) : ∀ a, fillL r (fillL b a) = fillL (fillL r b) a
  | [] => rfl
  | x :: a => by
    rw [fillL_cons, fillL_cons]
    by_cases hx : x = -1
    · rw [if_pos hx, if_pos hx, fillL_append, fillL_fillL r b a]
    · rw [if_neg hx, if_neg hx, fillL_cons, if_neg hx, fillL_fillL r b a]
theorem innersN_fillL (b : List Int) : ∀ a, innersN (fillL b a) = innersN a * innersN b
  | [] => by simp [fillL, innersN]
  | x :: a => by
    rw [fillL_cons, innersN_cons]
    by_cases hx : x = -1
    · rw [if_pos hx, if_pos hx, innersN_append, innersN_fillL b a, Nat.add_mul]
      omega
    · rw [if_neg hx, if_neg hx, innersN_cons, if_neg hx, innersN_fillL b a]
/-- two do-parts one behind the other, and what stands for both -/
theorem fill_two (a b r : List Int) (ok : Bool) (hM : (fillL b a).length ≤ 2000) (h : (fillF a (fillF b r ok).1 (fillF b r ok).2).2 = true) :
    fillF (fillL b a) r ok = fillF a (fillF b r ok).1 (fillF b r ok).2 := by
  obtain ⟨e, h1, h2⟩ := fill_ok h
  rw [e]
  by_cases h0 : innersN a = 0
  · rw [fillL_none _ a h0] at hM ⊢
    rw [fillL_none _ a h0] at h2 ⊢
    rw [fill_of (.inl h0) (by rw [fillL_none _ a h0]; exact h2), fillL_none _ a h0]
  · obtain ⟨e2, h3, h4⟩ := fill_ok (h1.resolve_left h0)
    rw [e2] at h2 ⊢
    dsimp only at h2 ⊢
    rw [← fillL_fillL] at h2 ⊢
    refine fill_of (h3.imp (fun h => ?_) id) h2
    rw [innersN_fillL, h, Nat.mul_zero]
/-- a walk looks at what is behind only where it needs it -/
theorem walk_behind (s s' : List (List Int)) (hs : (walkL s).2 = true → walkL s' = walkL s) : ∀ p, (walkL (p ++ s)).2 = true → walkL (p ++ s') = walkL (p ++ s)
  | [], h => hs h
  | a :: p, h => by
    obtain ⟨e, h1, h2⟩ := fill_ok (a := a) (b := (walkL (p ++ s)).1) (ok := (walkL (p ++ s)).2) h
    show fillF a (walkL (p ++ s')).1 (walkL (p ++ s')).2 = fillF a (walkL (p ++ s)).1 (walkL (p ++ s)).2
    rcases h1 with h0 | h1
    · rw [fillL_none _ a h0] at h2
      rw [fill_of (.inl h0) (by rw [fillL_none _ a h0]; exact h2), fill_of (.inl h0) (by rw [fillL_none _ a h0]; exact h2), fillL_none _ a h0, fillL_none _ a h0]
    · rw [walk_behind s s' hs p h1]
/-- one inner, and nothing else, is what is behind -/
theorem fill_inner (s : List (List Int)) : fillF [-1] (walkL s).1 (walkL s).2 = walkL s := by
  have hl := walkL_len s
  have e : fillL (walkL s).1 [-1] = (walkL s).1 := by simp [fillL]
  cases h : (walkL s).2 with
  | true =>
    rw [fill_of (.inr rfl) (by rw [e]; exact hl), e, ← h]
  | false =>
    have hb : (walkL s) = ([], false) := by
      cases s with
      | nil => cases h
      | cons a r =>
        show fillF a _ _ = _
        have h' : (fillF a (walkL r).1 (walkL r).2).2 = false := h
        unfold fillF at h' ⊢
        split
        · rfl
        · rename_i hn
          rw [if_neg hn] at h'
          cases h'
    rw [hb]
    rfl
theorem walkF_zero {ls : List S39} (h : (walkF ls).2 = 0) : ls.length ≤ 40 ∧ (∀ d ∈ ls, actOk d.f0 d.f1 = true) ∧ (walkL (actsOf ls)).2 = true := by
  unfold walkF at h
  by_cases h40 : 40 < ls.length
  · rw [if_pos h40] at h
    cases h
  · rw [if_neg h40] at h
    by_cases ha : ls.all (fun d => actOk d.f0 d.f1) = true
    · rw [if_pos ha] at h
      by_cases hw : (walkL (actsOf ls)).2 = true
      · exact ⟨by omega, List.all_eq_true.1 ha, hw⟩
      · rw [if_neg hw] at h
        cases h
    · rw [if_neg ha] at h
      cases h
theorem walkF_of {ls : List S39} (h : ls.length ≤ 40) (ha : ∀ d ∈ ls, actOk d.f0 d.f1 = true) (hw : (walkL (actsOf ls)).2 = true) : walkF ls = ((walkL (actsOf ls)).1, 0) := by
  unfold walkF
  rw [if_neg (by omega), if_pos (List.all_eq_true.2 ha), if_pos hw]
theorem mergeF_ok {a b : S39} (h : (mergeF a b).2.2 = 0) : actOk a.f0 a.f1 = true ∧ actOk b.f0 b.f1 = true ∧ (fillL (actL b.f0 b.f1) (actL a.f0 a.f1)).length ≤ 2000 ∧ mergeF a b = (true, fillL (actL b.f0 b.f1) (actL a.f0 a.f1), 0) := by
  unfold mergeF at h ⊢
  by_cases hk : (actOk a.f0 a.f1 && actOk b.f0 b.f1) = true
  · rw [if_pos hk] at h ⊢
    simp only [Bool.and_eq_true] at hk
    by_cases hf : (fillF (actL a.f0 a.f1) (actL b.f0 b.f1) true).2 = true
    · obtain ⟨e, _, h2⟩ := fill_ok hf
      rw [if_pos hf, e]
      exact ⟨hk.1, hk.2, h2, rfl⟩
    · rw [if_neg hf] at h
      cases h
  · rw [if_neg hk] at h
    cases h
theorem mergeF_of {a b : S39} (ha : actOk a.f0 a.f1 = true) (hb : actOk b.f0 b.f1 = true) (hl : (fillL (actL b.f0 b.f1) (actL a.f0 a.f1)).length ≤ 2000) : mergeF a b = (true, fillL (actL b.f0 b.f1) (actL a.f0 a.f1), 0) := by
  unfold mergeF
  rw [ha, hb, if_pos (by rfl), fill_of (.inr rfl) hl, if_pos rfl]
theorem mergeF_two {a b : S39} (ha : actOk a.f0 a.f1 = true) (hb : actOk b.f0 b.f1 = true) (h : ¬ (mergeF a b).2.2 = 0) : (mergeF a b).2.2 = 2 ∧ (mergeF a b).2.1 = [] := by
  unfold mergeF at h ⊢
  rw [ha, hb, if_pos (by rfl)] at h ⊢
  by_cases hf : (fillF (actL a.f0 a.f1) (actL b.f0 b.f1) true).2 = true
  · rw [if_pos hf] at h
    exact absurd rfl h
  · rw [if_neg hf]
    exact ⟨rfl, rfl⟩
theorem any_fillL (b : List Int) (hb : b.any negB = false) : ∀ a, a.any negB = false → (fillL b a).any negB = false
  | [], _ => rfl
  | x :: a, h => by
    rw [List.any_cons, Bool.or_eq_false_iff] at h
    rw [fillL_cons]
    by_cases hx : x = -1
    · rw [if_pos hx, List.any_append, hb, any_fillL b hb a h.2]
      rfl
    · rw [if_neg hx, List.any_cons, h.1, any_fillL b hb a h.2]
      rfl
theorem actL_any {f : Bool} {l : List Int} (h : actOk f l = true) : (actL f l).any negB = false := by
  unfold actOk at h
  unfold actL
  simp only [Bool.and_eq_true, Bool.not_eq_true'] at h
  split
  · exact h.2
  · decide
/-- what Merge returns may be walked -/
theorem merged_ok {a b : S39} (ha : actOk a.f0 a.f1 = true) (hb : actOk b.f0 b.f1 = true) : actOk true (fillL (actL b.f0 b.f1) (actL a.f0 a.f1)) = true := by
  unfold actOk
  rw [any_fillL _ (actL_any hb) _ (actL_any ha)]
  rfl
section
variable {ls : List S39} {k : Nat} (hk : k + 1 < ls.length) (h0 : (walkF ls).2 = 0)
include hk
theorem parts_two : ls = ls.take k ++ (ls[k] :: ls[k + 1] :: ls.drop (k + 2)) := by
  conv => lhs; rw [← List.take_append_drop k ls, List.drop_eq_getElem_cons (by omega : k < ls.length), List.drop_eq_getElem_cons hk]
include h0
theorem oks : actOk ls[k].f0 ls[k].f1 = true ∧ actOk ls[k + 1].f0 ls[k + 1].f1 = true :=
  ⟨(walkF_zero h0).2.1 _ (List.getElem_mem _), (walkF_zero h0).2.1 _ (List.getElem_mem _)⟩
/-- two do-parts, merged, change no walk -/
theorem walk_merged (hm : (mergeF ls[k] ls[k + 1]).2.2 = 0) : walkF (ls.take k ++ ([⟨true, (mergeF ls[k] ls[k + 1]).2.1⟩] ++ ls.drop (k + 2))) = walkF ls := by
  obtain ⟨h40, hall, hw⟩ := walkF_zero h0
  obtain ⟨ha, hb, hl, e⟩ := mergeF_ok hm
  rw [e]
  have hp := parts_two hk
  have e1 : actsOf (ls.take k ++ ([⟨true, fillL (actL ls[k + 1].f0 ls[k + 1].f1) (actL ls[k].f0 ls[k].f1)⟩] ++ ls.drop (k + 2))) = actsOf (ls.take k) ++ (fillL (actL ls[k + 1].f0 ls[k + 1].f1) (actL ls[k].f0 ls[k].f1) :: actsOf (ls.drop (k + 2))) := by
    simp [actsOf, actL]
  have e2 : actsOf ls = actsOf (ls.take k) ++ (actL ls[k].f0 ls[k].f1 :: actL ls[k + 1].f0 ls[k + 1].f1 :: actsOf (ls.drop (k + 2))) :=
    (congrArg actsOf hp).trans (by simp only [actsOf, List.map_append, List.map_cons])
  have hw2 := walk_behind (actL ls[k].f0 ls[k].f1 :: actL ls[k + 1].f0 ls[k + 1].f1 :: actsOf (ls.drop (k + 2))) (fillL (actL ls[k + 1].f0 ls[k + 1].f1) (actL ls[k].f0 ls[k].f1) :: actsOf (ls.drop (k + 2)))
    (fun h => fill_two _ _ _ _ hl h) (actsOf (ls.take k)) (by rw [← e2]; exact hw)
  rw [← e2, ← e1] at hw2
  rw [walkF_of h40 hall hw, walkF_of ?_ ?_ (by rw [hw2]; exact hw), hw2]
  · simp only [List.length_append, List.length_take, List.length_drop, List.length_cons, List.length_nil]
    omega
  · intro d hd
    rcases List.mem_append.1 hd with hd | hd
    · exact hall d (List.mem_of_mem_take hd)
    · rcases List.mem_append.1 hd with hd | hd
      · rw [List.mem_singleton] at hd
        subst hd
        exact merged_ok ha hb
      · exact hall d (List.mem_of_mem_drop hd)
/-- a missing do-part changes no walk -/
theorem walk_missing (hf : ls[k].f0 = false) : walkF (ls.take k ++ ls.drop (k + 1)) = walkF ls := by
  obtain ⟨h40, hall, hw⟩ := walkF_zero h0
  have e1 : actsOf (ls.take k ++ ls.drop (k + 1)) = actsOf (ls.take k) ++ actsOf (ls.drop (k + 1)) := by simp [actsOf]
  have e2 : actsOf ls = actsOf (ls.take k) ++ ([-1] :: actsOf (ls.drop (k + 1))) := by
    have hp : ls = ls.take k ++ (ls[k] :: ls.drop (k + 1)) := by
      conv => lhs; rw [← List.take_append_drop k ls, List.drop_eq_getElem_cons (by omega : k < ls.length)]
    have ha : actL ls[k].f0 ls[k].f1 = [-1] := by rw [hf]; rfl
    exact (congrArg actsOf hp).trans (by simp only [actsOf, List.map_append, List.map_cons, ha])
  have hw2 := walk_behind ([-1] :: actsOf (ls.drop (k + 1))) (actsOf (ls.drop (k + 1))) (fun _ => (fill_inner _).symm) (actsOf (ls.take k)) (by rw [← e2]; exact hw)
  rw [← e2, ← e1] at hw2
  rw [walkF_of h40 hall hw, walkF_of ?_ ?_ (by rw [hw2]; exact hw), hw2]
  · simp only [List.length_append, List.length_take, List.length_drop]
    omega
  · intro d hd
    rcases List.mem_append.1 hd with hd | hd
    · exact hall d (List.mem_of_mem_take hd)
    · exact hall d (List.mem_of_mem_drop hd)
end
/-- merging is associative -/
theorem merge_assoc {a b c : S39} (hm : (mergeF a b).2.2 = 0) (hl : (mergeF ⟨true, (mergeF a b).2.1⟩ c).2.2 = 0) (hr : (mergeF b c).2.2 = 0) :
    mergeF a ⟨true, (mergeF b c).2.1⟩ = (true, (mergeF ⟨true, (mergeF a b).2.1⟩ c).2.1, 0) := by
  obtain ⟨ha, hb, hl1, e1⟩ := mergeF_ok hm
  obtain ⟨_, hc, hl2, e2⟩ := mergeF_ok hr
  rw [e1] at hl ⊢
  rw [e2]
  obtain ⟨_, _, hl3, e3⟩ := mergeF_ok hl
  rw [e3]
  have e4 : ∀ l, actL true l = l := fun l => rfl
  dsimp only at hl3 ⊢
  rw [e4] at hl3 ⊢
  rw [fillL_fillL] at hl3 ⊢
  exact mergeF_of ha (merged_ok hb hc) hl3
end Go.Proofs.YtgkebfeggekkgaaDoor.Given
end
section
-- Written by a program of mine (wip/print_given.sh: the kit's print, changed so that some functions are given by contracts).
namespace Go.Proofs.YtgkebfeggekkgaaDoor.PT
open Go.RowKit Go.Proofs.YtgkebfeggekkgaaDoor.Given Go.Proofs.YtgkebfeggekkgaaDoorW.PrintWords Go.Proofs.YtgkebfeggekkgaaDoorW.PrintLast Go.Proofs.YtgkebfeggekkgaaDoorW.PrintMore
attribute [local go_sem] max2_int min2_int max_two min_two max_three min_three max_four min_four   -- for this text's walks alone
set_option linter.unusedVariables false
set_option linter.unusedSimpArgs false

/-! ### mjolnerref09_validDo: function 63 -/
def mjolnerref09_validDo.l0 : Nat → Int → Bool → List Int → Option (Bool)
  | 0, _, _, _ => none
  | k + 1, x3, x322000, x322001 => if x3 < (x322001.length : Int) then (if 0 ≤ x3 then (if (rd x322001 x3) < (-1) then (some false) else (mjolnerref09_validDo.l0 k (wrap64 (x3 + 1)) x322000 x322001)) else (none)) else (if x322000 = true then (some true) else (some ((x322001.length : Int) == 0)))
def mjolnerref09_validDo.f (k : Nat) (a0_0 : Bool) (l0_1 : List Int) : Option (Bool) := mjolnerref09_validDo.l0 k 0 a0_0 l0_1
theorem mjolnerref09_validDo.mono_l : ∀ k, (∀ y0 y1 y2, LeO (mjolnerref09_validDo.l0 k y0 y1 y2) (mjolnerref09_validDo.l0 (k + 1) y0 y1 y2))
  | 0 => fun _ _ _ r h => by simp [mjolnerref09_validDo.l0] at h
  | k + 1 => by
    have ih0 := mjolnerref09_validDo.mono_l k
    · intro y0 y1 y2
      unfold mjolnerref09_validDo.l0
      repeat' first
      | (with_reducible exact ih0 _ _ _)
      | (with_reducible exact LeO.refl _)
      | (with_reducible exact LeO.none _)
      | (with_reducible refine LeO.ite ?_ ?_)
      | (with_reducible refine LeO.bind ?_ (fun _ => ?_))
      | exact ih0 _ _ _
      | exact LeO.none _
      | refine LeO.ite ?_ ?_
      | refine LeO.bind ?_ (fun _ => ?_)
theorem mjolnerref09_validDo.mono : ∀ a0 a1 k, LeO (mjolnerref09_validDo.f k a0 a1) (mjolnerref09_validDo.f (k + 1) a0 a1) := by
  intro a0 a1 k
  have ih0 := mjolnerref09_validDo.mono_l k
  unfold mjolnerref09_validDo.f
  repeat' first
      | (with_reducible exact ih0 _ _ _)
      | (with_reducible exact LeO.refl _)
      | (with_reducible exact LeO.none _)
      | (with_reducible refine LeO.ite ?_ ?_)
      | (with_reducible refine LeO.bind ?_ (fun _ => ?_))
      | exact ih0 _ _ _
      | exact LeO.none _
      | refine LeO.ite ?_ ?_
      | refine LeO.bind ?_ (fun _ => ?_)
set_option maxHeartbeats 8000000 in
set_option maxRecDepth 100000 in
theorem mjolnerref09_validDo.calls (k : Nat) (a0_0 : Bool) (A0_1 : Option Addr) (c0_1 : Nat) (l0_1 : List Int) (r : Bool) (w : World) (hr0_1 : Kd.C (Kd.int .i64) w A0_1 l0_1.length l0_1) (hc0_1 : l0_1.length ≤ c0_1) (h : mjolnerref09_validDo.f k a0_0 l0_1 = some r) :
    Calls Tryd.prog 63 #[.agg #[.bool a0_0, .slice A0_1 l0_1.length c0_1]] w fun e w' => e = .returned (.bool r) ∧ Below w.heap.size w w' := by
  have hu39 := Tryd.underlying39
  have HR0_1 := Aside0.mk hr0_1
  have HC0_1 := Aside0.mk hc0_1
  clear hr0_1 hc0_1
  have HB := Aside0.mk (Below.refl w.heap.size w)
  have H : (mjolnerref09_validDo.l0 k 0 a0_0 l0_1) = some r := h
  clear h
  have H' := Aside0.mk H
  clear H
  go_enter Tryd.func63, Tryd.ntmps63
  go_wp2_with (first | ((with_reducible refine gate_dst (N := 1) rfl ?_); (try (refine gate_guard (by rfl) ?_; dsimp only)); refine box_event ?hg (N := 1) ?hd (cs := #[.bool a0_0, .slice A0_1 l0_1.length c0_1]) (t := 39) ?hr ?_; (case hd => rfl); (case hg => rfl); (case hr => first | (go_simp; done) | (go_simp; rfl)); intro gb321 hg w2 hbox hb; have n0_ := Aside0.mk (below_step (by repeat (first | (with_reducible first | exact HB.out | apply below_alloc | apply pw_below_drewN | apply below_drew1) | exact HB.out)) hb); have n1_ := Aside0.mk (hbox); have n2_ := Aside0.mk ((by rw [hg]; exact (below_size (by repeat (first | (with_reducible first | exact HB.out | apply below_alloc | apply pw_below_drewN | apply below_drew1) | exact HB.out))) : w.heap.size ≤ gb321)); have n3_ := Aside0.mk ((by rw [hg]; exact (below_size (by repeat (first | (with_reducible first | exact HB.out | apply below_alloc | apply pw_below_drewN | apply below_drew1) | exact HB.out))) : w.heap.size ≤ gb321)); clear HB; have HB := n0_; have BK321 := n1_; have GW321 := n2_; have GE321 := n3_; clear n0_ n1_ n2_ n3_; clear hb hbox hg))
  go_loopg [3] k (fun kq v3 w' => ∃ (x3_1 : Int), v3 = .int .i64 x3_1 ∧ Aside0 (mjolnerref09_validDo.l0 kq x3_1 a0_0 l0_1 = some r) ∧ Aside0 (kq ≤ k) ∧ Aside0 (w'.heap[gb321]? = some (.cells #[.bool a0_0, (.slice A0_1 l0_1.length c0_1)] 39 (0, 0))) ∧ Aside0 (Below w.heap.size w w'))
  case atStart => exact ⟨(0), (by first | rfl | (simp; done) | (simp [*]; done)), H', ⟨Nat.le_refl _⟩, ⟨by (with_reducible repeat (first | refine blk_drewN ?_ _ | refine blk_drew ?_ | refine blk_alloc ?_ _)); exact BK321.out⟩, ⟨by repeat (first | (with_reducible first | exact HB.out | apply below_alloc | apply pw_below_drewN | apply below_drew1 | refine below_set ?_ GE321.out) | exact HB.out)⟩⟩
  case round =>
    clear H'
    try clear p2
    obtain ⟨x3_1, rfl, HA, HK1, BK321, HB⟩ := hrel
    cases gk with
    | zero => exact absurd HA.out (by simp [mjolnerref09_validDo.l0])
    | succ k1 =>
      have H := HA.out
      clear HA
      simp only [mjolnerref09_validDo.l0] at H
      by_cases c3 : x3_1 < (l0_1.length : Int)
      · rw [if_pos c3] at H
        have c3b0 : decide (x3_1 < (l0_1.length : Int)) = true := decide_eq_true c3
        clear c3
        by_cases c4 : 0 ≤ x3_1
        · rw [if_pos c4] at H
          have c4b0 : decide (0 ≤ x3_1) = true := decide_eq_true c4
          clear c4
          by_cases c5 : (rd l0_1 x3_1) < (-1)
          · rw [if_pos c5] at H
            have c5b0 : decide ((rd l0_1 x3_1) < (-1)) = true := decide_eq_true c5
            clear c5
            obtain rfl := Option.some.inj H
            have hcz6_0 : wr.cell? ⟨gb321, 0, none⟩ = some (.bool a0_0) := (blk_cell BK321.out 0).trans rfl
            have hcz6_1 : wr.cell? ⟨gb321, 1, none⟩ = some (.slice A0_1 l0_1.length c0_1) := (blk_cell BK321.out 1).trans rfl
            have hfz6_0 := blk_frozen BK321.out 0
            have hfz6_1 := blk_frozen BK321.out 1
            have p322 : 0 ≤ (x3_1 : Int) := of_decide_eq_true (by first | (with_reducible assumption) | assumption)
            have q322 : x3_1 < (l0_1.length : Int) := of_decide_eq_true (by first | (with_reducible assumption) | assumption)
            obtain ⟨ad322, e322, hx322_0⟩ := Kd.at_int HR0_1.out x3_1 p322 q322
            cases e322
            replace hx322_0 := (HB.out.cell (World.block_lt_of_cell? w _ hx322_0)).trans hx322_0
            replace p322 := eq_true p322
            replace q322 := eq_true q322
            go_wp2
            go_ret
            exact ⟨by first | rfl | (simp [errW_none, errW_some] <;> rfl) | (simp [*, errW_none, errW_some] <;> rfl), by repeat (first | (with_reducible first | exact HB.out | apply below_alloc | apply pw_below_drewN | apply below_drew1 | refine below_set ?_ GE321.out) | exact HB.out)⟩
          · rw [if_neg c5] at H
            have c5b0 : decide ((rd l0_1 x3_1) < (-1)) = false := decide_eq_false c5
            clear c5
            have H' := Aside0.mk H
            clear H
            have hcz7_0 : wr.cell? ⟨gb321, 0, none⟩ = some (.bool a0_0) := (blk_cell BK321.out 0).trans rfl
            have hcz7_1 : wr.cell? ⟨gb321, 1, none⟩ = some (.slice A0_1 l0_1.length c0_1) := (blk_cell BK321.out 1).trans rfl
            have hfz7_0 := blk_frozen BK321.out 0
            have hfz7_1 := blk_frozen BK321.out 1
            have p322 : 0 ≤ (x3_1 : Int) := of_decide_eq_true (by first | (with_reducible assumption) | assumption)
            have q322 : x3_1 < (l0_1.length : Int) := of_decide_eq_true (by first | (with_reducible assumption) | assumption)
            obtain ⟨ad322, e322, hx322_0⟩ := Kd.at_int HR0_1.out x3_1 p322 q322
            cases e322
            replace hx322_0 := (HB.out.cell (World.block_lt_of_cell? w _ hx322_0)).trans hx322_0
            replace p322 := eq_true p322
            replace q322 := eq_true q322
            go_wp2
            go_roundg k1
            case measure => have := HK1.out; omega
            case rel => exact ⟨(wrap64 (x3_1 + 1)), (by first | rfl | (simp; done) | (simp [*]; done)), H', ⟨by have := HK1.out; omega⟩, ⟨by (with_reducible repeat (first | refine blk_drewN ?_ _ | refine blk_drew ?_ | refine blk_alloc ?_ _)); exact BK321.out⟩, ⟨by repeat (first | (with_reducible first | exact HB.out | apply below_alloc | apply pw_below_drewN | apply below_drew1 | refine below_set ?_ GE321.out) | exact HB.out)⟩⟩
        · rw [if_neg c4] at H
          exact absurd H (by simp)
      · rw [if_neg c3] at H
        have c3b0 : decide (x3_1 < (l0_1.length : Int)) = false := decide_eq_false c3
        clear c3
        by_cases c8 : a0_0 = true
        · subst c8
          have H1 : (some true) = some r := by rw [if_pos rfl] at H; exact H
          clear H
          have H := H1
          clear H1
          obtain rfl := Option.some.inj H
          have hcz9_0 : wr.cell? ⟨gb321, 0, none⟩ = some (.bool true) := (blk_cell BK321.out 0).trans rfl
          have hcz9_1 : wr.cell? ⟨gb321, 1, none⟩ = some (.slice A0_1 l0_1.length c0_1) := (blk_cell BK321.out 1).trans rfl
          have hfz9_0 := blk_frozen BK321.out 0
          have hfz9_1 := blk_frozen BK321.out 1
          go_wp2
          go_ret
          exact ⟨by first | rfl | (simp [errW_none, errW_some] <;> rfl) | (simp [*, errW_none, errW_some] <;> rfl), by repeat (first | (with_reducible first | exact HB.out | apply below_alloc | apply pw_below_drewN | apply below_drew1 | refine below_set ?_ GE321.out) | exact HB.out)⟩
        · replace c8 := Bool.eq_false_iff.mpr c8
          subst c8
          have H1 : (some ((l0_1.length : Int) == 0)) = some r := by rw [if_neg (show ¬ (false = true) by decide)] at H; exact H
          clear H
          have H := H1
          clear H1
          obtain rfl := Option.some.inj H
          have hcz10_0 : wr.cell? ⟨gb321, 0, none⟩ = some (.bool false) := (blk_cell BK321.out 0).trans rfl
          have hcz10_1 : wr.cell? ⟨gb321, 1, none⟩ = some (.slice A0_1 l0_1.length c0_1) := (blk_cell BK321.out 1).trans rfl
          have hfz10_0 := blk_frozen BK321.out 0
          have hfz10_1 := blk_frozen BK321.out 1
          go_wp2
          go_ret
          exact ⟨by first | rfl | (simp [errW_none, errW_some] <;> rfl) | (simp [*, errW_none, errW_some] <;> rfl), by repeat (first | (with_reducible first | exact HB.out | apply below_alloc | apply pw_below_drewN | apply below_drew1 | refine below_set ?_ GE321.out) | exact HB.out)⟩

end Go.Proofs.YtgkebfeggekkgaaDoor.PT
end
