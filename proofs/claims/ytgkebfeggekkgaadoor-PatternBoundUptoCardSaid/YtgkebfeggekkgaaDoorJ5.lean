/- Plain functions of package pattern: whether a pattern is valid, how much two have in common; and that the printed functions compute them. -/
import Derived.Test.YtgkebfeggekkgaaDoorPTx2
import Derived.IntWalk
import Derived.Test.YtgkebfeggekkgaaDoorJ4
section
set_option linter.unusedVariables false
set_option linter.unusedSimpArgs false
namespace Go.Proofs.YtgkebfeggekkgaaDoor.Given
open Go.RowKit Go.Proofs.YtgkebfeggekkgaaDoor.PT Go.Proofs.YtgkebfeggekkgaaDoorW.PrintWords Go.Proofs.YtgkebfeggekkgaaDoorW.PrintLast Go.Proofs.YtgkebfeggekkgaaDoorW.PrintMore

theorem w64 {a : Int} {n : Nat} (h : a = n) (hn : n ≤ 9223372036854775807) : wrap64 a = n := by rw [IntWalk.wrap64_in _ (by omega)]; exact h
theorem S31.ext_iff' (x y : S31) : x = y ↔ x.f0 = y.f0 ∧ x.f1 = y.f1 ∧ x.f2 = y.f2 := by
  cases x; cases y; simp
instance : DecidableEq S31 := fun x y => decidable_of_iff _ (S31.ext_iff' x y).symm
/-- a part is valid -/
def okP (x : S31) : Bool := decide (0 ≤ x.f0) && decide (0 ≤ x.f1) && decide (0 ≤ x.f2) && (!decide (x.f1 = 0) || decide (x.f2 = 0))
def checkL (l : List S31) : Int := if 40 < l.length then 2 else if l.all okP then 0 else 1
def validL : List (List S31) → Int
  | [] => 0
  | l :: r => if checkL l = 0 then validL r else checkL l
/-- how many parts at the beginning two patterns have in common -/
def commonN : List S31 → List S31 → Nat
  | x :: a, y :: b => if x = y then commonN a b + 1 else 0
  | _, _ => 0
def conformsB (q p : List S31) : Bool := decide (commonN q p = p.length)
theorem rd31 (l : List S31) (i : Nat) (h : i < l.length) : rd_T31 l (i : Int) = l[i] := by
  unfold rd_T31
  simp [h]
theorem check_loop (l : List S31) (hl : l.length ≤ 40) : ∀ (d i k : Nat), i + d = l.length → d < k → pattern_Check.l0 k l (l.length : Int) (i : Int) = some (if (l.drop i).all okP then 0 else 1) := by
  intro d
  induction d with
  | zero =>
    intro i k hi hk
    obtain ⟨k, rfl⟩ : ∃ m, k = m + 1 := ⟨k - 1, by omega⟩
    rw [pattern_Check.l0, if_neg (by omega), List.drop_of_length_le (by omega)]
    rfl
  | succ d ih =>
    intro i k hi hk
    obtain ⟨k, rfl⟩ : ∃ m, k = m + 1 := ⟨k - 1, by omega⟩
    have h := ih (i + 1) k (by omega) (by omega)
    rw [pattern_Check.l0, if_pos (by omega), if_pos (by omega), if_pos (by omega), rd31 l i (by omega), w64 (n := i + 1) (by omega) (by omega), h, List.drop_eq_getElem_cons (show i < l.length by omega), List.all_cons]
    generalize l[i] = x
    generalize (l.drop (i + 1)).all okP = b
    unfold okP
    by_cases h1 : x.f0 < 0
    · rw [if_pos h1, decide_eq_false (show ¬ 0 ≤ x.f0 by omega)]
      rfl
    · rw [if_neg h1, decide_eq_true (show 0 ≤ x.f0 by omega)]
      by_cases h2 : x.f1 < 0
      · rw [if_pos h2, decide_eq_false (show ¬ 0 ≤ x.f1 by omega)]
        rfl
      · rw [if_neg h2, decide_eq_true (show 0 ≤ x.f1 by omega)]
        by_cases h3 : x.f2 < 0
        · rw [if_pos h3, decide_eq_false (show ¬ 0 ≤ x.f2 by omega)]
          rfl
        · rw [if_neg h3, decide_eq_true (show 0 ≤ x.f2 by omega)]
          by_cases h4 : x.f1 = 0
          · rw [if_pos h4, decide_eq_true h4]
            by_cases h5 : x.f2 = 0
            · rw [if_pos h5, decide_eq_true h5]
              rfl
            · rw [if_neg h5, decide_eq_false h5]
              rfl
          · rw [if_neg h4, decide_eq_false h4]
            rfl
theorem check_f (l : List S31) (k : Nat) (hk : l.length < k) : pattern_Check.f k l = some (checkL l) := by
  unfold pattern_Check.f checkL
  by_cases h : 40 < l.length
  · rw [if_pos (by omega), if_pos h]
  · rw [if_neg (by omega), if_neg h]
    exact check_loop l (by omega) l.length 0 k (by omega) hk
theorem checkL_small {l : List S31} (h : checkL l = 0) : l.length ≤ 40 := by
  unfold checkL at h
  split at h
  · cases h
  · omega
theorem commonN_le : ∀ (a b : List S31), commonN a b ≤ a.length ∧ commonN a b ≤ b.length
  | [], _ => by simp [commonN]
  | _ :: _, [] => by simp [commonN]
  | x :: a, y :: b => by
    have := commonN_le a b
    unfold commonN
    split <;> simp <;> omega
theorem common_loop (a b : List S31) (ha : a.length ≤ 9223372036854775806) : ∀ (d i k : Nat), i + d = a.length → d < k → api_PatPart.l0 k a b (i : Int) = some ((i + commonN (a.drop i) (b.drop i) : Nat) : Int) := by
  intro d
  induction d with
  | zero =>
    intro i k hi hk
    obtain ⟨k, rfl⟩ : ∃ m, k = m + 1 := ⟨k - 1, by omega⟩
    rw [api_PatPart.l0, if_neg (by omega), List.drop_of_length_le (show a.length ≤ i by omega)]
    rfl
  | succ d ih =>
    intro i k hi hk
    obtain ⟨k, rfl⟩ : ∃ m, k = m + 1 := ⟨k - 1, by omega⟩
    rw [api_PatPart.l0, if_pos (by omega)]
    by_cases hb : i < b.length
    · rw [if_pos (by omega), if_pos (by omega), rd31 a i (by omega), rd31 b i (by omega), w64 (n := i + 1) (by omega) (by omega), List.drop_eq_getElem_cons (show i < a.length by omega), List.drop_eq_getElem_cons (show i < b.length by omega)]
      by_cases he : a[i] = b[i]
      · rw [if_pos (by rw [he]; simp), ih (i + 1) k (by omega) (by omega)]
        show _ = some ((i + (if a[i] = b[i] then commonN (a.drop (i + 1)) (b.drop (i + 1)) + 1 else 0) : Nat) : Int)
        rw [if_pos he]
        congr 2
        omega
      · rw [if_neg (fun h => he ((S31.ext_iff' _ _).2 (by simpa using h)))]
        show _ = some ((i + (if a[i] = b[i] then commonN (a.drop (i + 1)) (b.drop (i + 1)) + 1 else 0) : Nat) : Int)
        rw [if_neg he]
        rfl
    · rw [if_neg (by omega), List.drop_of_length_le (show b.length ≤ i by omega)]
      cases a.drop i <;> rfl
theorem common_f (a b : List S31) (ha : a.length ≤ 9223372036854775806) (k : Nat) (hk : a.length < k) : api_PatPart.f k a b = some ((commonN a b : Nat) : Int) := by
  have := common_loop a b ha a.length 0 k (by omega) hk
  rw [List.drop_zero, List.drop_zero, Nat.zero_add] at this
  exact this
theorem conforms_f (q p : List S31) (ha : q.length ≤ 9223372036854775806) (k : Nat) (hk : q.length < k) : pattern_conforms.f k q p = some (conformsB q p) := by
  unfold pattern_conforms.f conformsB
  rw [common_f q p ha k hk]
  simp only [Option.bind_some]
  congr 1
  by_cases h : commonN q p = p.length
  · rw [decide_eq_true h]
    exact beq_iff_eq.2 (by omega)
  · rw [decide_eq_false h]
    exact beq_eq_false_iff_ne.2 (by omega)
theorem validL_two (p q : List S31) : validL [p, q] = if checkL p = 0 then checkL q else checkL p := by
  show (if checkL p = 0 then (if checkL q = 0 then 0 else checkL q) else checkL p) = _
  split
  · split
    · rename_i h; exact h.symm
    · rfl
  · rfl
theorem validL_two_ok {p q : List S31} (h : validL [p, q] = 0) : checkL p = 0 ∧ checkL q = 0 := by
  rw [validL_two] at h
  split at h
  · rename_i hp; exact ⟨hp, h⟩
  · rename_i hp; exact absurd h hp
/-- the first one that is not valid -/
theorem validL_step (ls : List (List S31)) (k : Nat) (hk : k < ls.length) (h : ∀ j (hj : j < ls.length), j < k → checkL ls[j] = 0) (hb : checkL ls[k] ≠ 0) : validL ls = checkL ls[k] := by
  induction ls generalizing k with
  | nil => simp at hk
  | cons l r ih =>
    cases k with
    | zero =>
      show (if checkL l = 0 then validL r else checkL l) = _
      rw [if_neg (show ¬ checkL l = 0 from hb)]
      rfl
    | succ k =>
      show (if checkL l = 0 then validL r else checkL l) = _
      have h0 : checkL l = 0 := h 0 (by simp) (by omega)
      rw [if_pos h0]
      exact ih k (by simpa using hk) (fun j hj hjk => h (j + 1) (by simpa using hj) (by omega)) hb
theorem validL_all (ls : List (List S31)) (h : ∀ j (hj : j < ls.length), checkL ls[j] = 0) : validL ls = 0 := by
  induction ls with
  | nil => rfl
  | cons l r ih =>
    show (if checkL l = 0 then validL r else checkL l) = _
    rw [if_pos (show checkL l = 0 from h 0 (by simp))]
    exact ih (fun j hj => h (j + 1) (by simpa using hj))
theorem checkL_range (l : List S31) : 0 ≤ checkL l ∧ checkL l ≤ 2 := by
  unfold checkL
  by_cases h : 40 < l.length
  · rw [if_pos h]
    decide
  · rw [if_neg h]
    by_cases h2 : l.all okP = true
    · rw [if_pos h2]
      decide
    · rw [if_neg h2]
      decide
theorem validL_range : ∀ (ls : List (List S31)), 0 ≤ validL ls ∧ validL ls ≤ 2
  | [] => by decide
  | l :: r => by
    have h1 := checkL_range l
    have h2 := validL_range r
    show 0 ≤ (if checkL l = 0 then validL r else checkL l) ∧ _
    split
    · rename_i h
      rw [validL, if_pos h]
      exact h2
    · rename_i h
      rw [validL, if_neg h]
      exact h1
end Go.Proofs.YtgkebfeggekkgaaDoor.Given
end
section
/- Doors: a function that defers guard and panics with a failure returns a zero and the error; and the contracts of valid. -/
set_option linter.unusedVariables false
set_option linter.unusedSimpArgs false
namespace Go.Proofs.YtgkebfeggekkgaaDoor.Given
open Go.RowKit Go.Proofs.YtgkebfeggekkgaaDoor.PT Go.Proofs.YtgkebfeggekkgaaDoorW.PrintWords Go.Proofs.YtgkebfeggekkgaaDoorW.PrintLast Go.Proofs.YtgkebfeggekkgaaDoorW.PrintMore

def GuardIdle (gd : FuncId) : Prop := ∀ (po pe : Addr) (w : World), CallsD Tryd.prog gd #[.pointer (some po), .pointer (some pe)] .returning w fun e u' w' => u' = .returning ∧ (e = .returned (.tuple #[]) ∧ w = w')
def GuardFails (gd : FuncId) (Z : Value) : Prop :=
  ∀ (bo be : Nat) (c : Int) (x y : Value) (w : World) (h1 : w.cell? ⟨bo, 0, none⟩ = some x) (h2 : w.cell? ⟨be, 0, none⟩ = some y) (hf1 : w.frozen? ⟨bo, 0, none⟩ = false) (hf2 : w.frozen? ⟨be, 0, none⟩ = false) (hne : ¬ bo = be),
    CallsD Tryd.prog gd #[.pointer (some ⟨bo, 0, none⟩), .pointer (some ⟨be, 0, none⟩)] (.panicking (failE c)) w fun e u' w' => u' = .panicking [{ v := failV c, recovered := true }] ∧ (e = .returned (.tuple #[]) ∧
      (((w.setCell ⟨bo, 0, none⟩ Z).setCell ⟨be, 0, none⟩ (.int .i64 c)).alloc (.cells #[.int .i64 c] 113)).drew = w')
def DoorResults (fn : Func) (p q : Nat) : Prop := ∀ (t : Array Value) (W : World) (g : Nat) (x u : Value), t.getD p undef = .pointer (some ⟨g, 0, none⟩) → t.getD q undef = .pointer (some ⟨g + 1, 0, none⟩) →
  W.cell? ⟨g, 0, none⟩ = some x → W.cell? ⟨g + 1, 0, none⟩ = some u → (results fn t).run Tryd.prog W = .ok (.tuple #[x, u]) W
def GuardIn (gd : FuncId) : Prop := ∀ (args : Array Value) (w : World), (callFunc gd args).run Tryd.prog w = .ok (.enter gd args) w
def defsG (gd : FuncId) (g : Nat) : List Deferred := [{ target := .fn (.func gd) #[], args := #[.pointer (some ⟨g, 0, none⟩), .pointer (some ⟨g + 1, 0, none⟩)] }]
/-- the two results' cells are there, and nothing older has turned -/
def Rd (g : Nat) (w W : World) (x u : Value) : Prop := Below g w W ∧ W.cell? ⟨g, 0, none⟩ = some x ∧ W.cell? ⟨g + 1, 0, none⟩ = some u ∧ W.frozen? ⟨g, 0, none⟩ = false ∧ W.frozen? ⟨g + 1, 0, none⟩ = false
set_option maxRecDepth 100000 in
theorem door_fails {fn : Func} {gd : FuncId} {Z : Value} {p q : Nat} {R : Ending → World → Prop} {g : Nat} {w w1 : World} {a : Act} {c : Int} {x u : Value} (hin : GuardIn gd) (hgd : GuardFails gd Z) (hres : DoorResults fn p q)
    (hR : ∀ w', Below g w w' → R (.returned (.tuple #[Z, .int .i64 c])) w') (hg : w.heap.size ≤ g) (h : Rd g w w1 x u) (hd : a.defers = defsG gd g) (h2 : a.tmps.getD p undef = .pointer (some ⟨g, 0, none⟩)) (h3 : a.tmps.getD q undef = .pointer (some ⟨g + 1, 0, none⟩)) :
    bodyPostD Tryd.prog fn R (.panic (failE c)) a w1 := by
  obtain ⟨hB, c0, c1, f0, f1⟩ := h
  show Leaves _ _ _ _ _ _ _
  rw [hd]
  have lt1 := World.block_lt_of_cell? w1 _ c0
  have lt2 := World.block_lt_of_cell? w1 _ c1
  simp only [] at lt1 lt2
  refine leaves_cons (f := gd) (args := #[.pointer (some ⟨g, 0, none⟩), .pointer (some ⟨g + 1, 0, none⟩)]) (by simp) (by simp [go_sem, hin _ w1]) ?_
  refine (hgd g (g + 1) c _ _ w1 c0 c1 f0 f1 (by omega)).mono ?_
  rintro e u' w'' ⟨rfl, rfl, rfl⟩
  have hBf := below_drew (((hB.setCell (p := ⟨g, 0, none⟩) (Nat.le_refl _) Z).setCell (p := ⟨g + 1, 0, none⟩) (by simp) (.int .i64 c)).alloc (by simp; omega) (.cells #[.int .i64 c] 113))
  have n0 : ¬ g = w1.heap.size := by omega
  have n2 : ¬ g + 1 = w1.heap.size := by omega
  have n3 : ¬ w1.heap.size = g := by omega
  have n4 : ¬ w1.heap.size = g + 1 := by omega
  show Leaves _ _ _ _ [] .returning _
  refine ⟨_, hres _ _ g _ _ h2 h3 ?_ ?_, hR _ hBf⟩
  all_goals simp [go_sem, c0, c1, lt1, lt2, n0, n2, n3, n4]
theorem door_ends {fn : Func} {gd : FuncId} {p q : Nat} {R : Ending → World → Prop} {g : Nat} {w1 : World} {t : Array Value} {x u : Value} (hin : GuardIn gd) (hgd : GuardIdle gd) (hres : DoorResults fn p q)
    (c0 : w1.cell? ⟨g, 0, none⟩ = some x) (c1 : w1.cell? ⟨g + 1, 0, none⟩ = some u) (h2 : t.getD p undef = .pointer (some ⟨g, 0, none⟩)) (h3 : t.getD q undef = .pointer (some ⟨g + 1, 0, none⟩)) (hR : R (.returned (.tuple #[x, u])) w1) :
    Leaves Tryd.prog fn t R (defsG gd g) .returning w1 := by
  refine leaves_cons (f := gd) (args := #[.pointer (some ⟨g, 0, none⟩), .pointer (some ⟨g + 1, 0, none⟩)]) (by simp) (by simp [go_sem, hin _ w1]) ?_
  refine (hgd _ _ w1).mono ?_
  rintro e u' w'' ⟨rfl, rfl, rfl⟩
  show Leaves _ _ _ _ [] .returning _
  exact ⟨_, hres _ _ g _ _ h2 h3 c0 c1, hR⟩
/-- the world behind the two blocks that a door lays, and one behind which these stand still -/
def wD (Z : Value) (t : TypeId) (w : World) : World := (w.alloc (.cells #[Z] t)).alloc (.cells #[.int .i64 0] 25)
theorem wD_size (Z : Value) (t : TypeId) (w : World) : (wD Z t w).heap.size = w.heap.size + 2 := by simp [wD]
theorem wD_below (Z : Value) (t : TypeId) (w : World) : Below w.heap.size w (wD Z t w) := ((Below.refl _ _).alloc (Nat.le_refl _) _).alloc (by simp) _
theorem Rd_of {Z : Value} {t : TypeId} {w W : World} (h : Below (w.heap.size + 2) (wD Z t w) W) : Rd w.heap.size w W Z (.int .i64 0) := by
  refine ⟨(wD_below Z t w).trans (h.mono (by omega)), (bcell h (by omega)).trans ?_, (bcell h (by omega)).trans ?_, (bfrozen h (by omega)).trans ?_, (bfrozen h (by omega)).trans ?_⟩
  all_goals simp [wD, go_sem]
theorem check_calls (A0 : Option Addr) (c0 : Nat) (l0 : List S31) (w : World) (hr0 : Kd.C k31 w A0 l0.length l0) (hc0 : l0.length ≤ c0) :
    Calls Tryd.prog 23 #[.slice A0 l0.length c0] w fun e w' => e = .returned (.int .i64 (checkL l0)) ∧ Below w.heap.size w w' :=
  pattern_Check.calls (l0.length + 1) A0 c0 l0 _ w hr0 hc0 (check_f l0 _ (by omega))
theorem conforms_calls (A0 : Option Addr) (c0 : Nat) (l0 : List S31) (A1 : Option Addr) (c1 : Nat) (l1 : List S31) (w : World) (hr0 : Kd.C k31 w A0 l0.length l0) (hc0 : l0.length ≤ c0) (hr1 : Kd.C k31 w A1 l1.length l1) (hc1 : l1.length ≤ c1) (hl : l0.length ≤ 40) :
    Calls Tryd.prog 54 #[.slice A0 l0.length c0, .slice A1 l1.length c1] w fun e w' => e = .returned (.bool (conformsB l0 l1)) ∧ Drawn0 w w' :=
  pattern_conforms.calls (l0.length + 1) A0 c0 l0 A1 c1 l1 _ w hr0 hc0 hr1 hc1 (conforms_f l0 l1 (by omega) _ (by omega))
theorem rd5 (ls : List (List S31)) (i : Nat) (h : i < ls.length) : rd_L5 ls (i : Int) = ls[i] := by
  unfold rd_L5
  simp [h]
def ValidPost (ls : List (List S31)) (w : World) (e : Ending) (w' : World) : Prop := (if validL ls = 0 then e = .returned (.tuple #[]) else e = .panicked (failE (validL ls))) ∧ Below w.heap.size w w'
set_option maxRecDepth 100000 in
set_option maxHeartbeats 1000000 in
theorem valid_post (A : Option Addr) (c : Nat) (ls : List (List S31)) (w : World) (hr : Kd.C (Kd.slice 31 k31) w A ls.length ls) (hc : ls.length ≤ c) :
    Calls Tryd.prog 62 #[.slice A ls.length c] w (ValidPost ls w) := by
  have hl : ls.length ≤ 9223372036854775807 := hr.2.1
  have HR := Aside0.mk hr
  clear hr
  go_enter Tryd.func62, Tryd.ntmps62
  go_wp2
  go_loopw [7] (fun i W => ∃ k : Nat, k ≤ ls.length ∧ i = .int .i64 k ∧ Aside0 (Below w.heap.size w W) ∧ Aside0 (∀ j (hj : j < ls.length), j < k → checkL ls[j] = 0)) (fun i _ => ls.length - (intOf i).toNat)
  case atStart => exact ⟨0, Nat.zero_le _, rfl, ⟨Below.refl _ _⟩, ⟨fun j _ hj => absurd hj (by omega)⟩⟩
  case round =>
    obtain ⟨k, hk, rfl, hbel, hall⟩ := hrel
    by_cases hlt : k < ls.length
    · obtain ⟨ad, A0, c0, rfl, hx, hc0, hg⟩ := at_L5 (Kd.C_below HR.out hbel.out) (k : Int) (by omega) (by omega)
      rw [Int.toNat_natCast] at hx
      have hrd := rd5 ls k hlt
      generalize hgl : rd_L5 ls (k : Int) = l at hx hc0 hg hrd
      clear hgl
      have HCH := Aside0.mk (check_calls A0 c0 l wr hg hc0)
      have hrange := checkL_range l
      by_cases h0 : checkL l = 0
      · rw [h0] at HCH
        have hall2 := Aside0.mk (show ∀ j (hj : j < ls.length), j < k + 1 → checkL ls[j] = 0 from fun j hj hjk => by
          rcases Nat.lt_or_ge j k with h | h
          · exact hall.out j hj h
          · have : j = k := by omega
            subst this
            rw [← hrd, h0])
        clear hrd hall hrange h0
        go_wp2_with (first | (go_at_call 23; (with_reducible refine HCH.out.mono ?_); rintro e w1 ⟨rfl, hb1⟩) | (go_at_call 51; (with_reducible refine (fail_false _ _).mono ?_); rintro e w2 ⟨rfl, rfl⟩))
        exact ⟨⟨k + 1, by omega, by first | rfl | simp, ⟨hbel.out.trans (hb1.mono hbel.out.size)⟩, hall2⟩, by simp [intOf]; omega⟩
      · have hv := Aside0.mk (validL_step ls k hlt hall.out (by rw [← hrd]; exact h0))
        rw [← hrd] at hv
        have hv0 := Aside0.mk h0
        generalize checkL l = z at HCH hv hv0 hrange h0
        have hz : (z != 0) = true := by simpa using h0
        clear hrd hall hrange h0
        go_wp2_with (first | (go_at_call 23; (with_reducible refine HCH.out.mono ?_); rintro e w1 ⟨rfl, hb1⟩) | (go_at_call 51; (with_reducible refine (fail_true _ _).mono ?_); rintro e w2 ⟨rfl, rfl⟩))
        exact ⟨rfl, by rw [hv.out, if_neg hv0.out], hbel.out.trans (hb1.mono hbel.out.size)⟩
    · have hv := Aside0.mk (validL_all ls (fun j hj => hall.out j hj (by omega)))
      go_wp2
      go_end0
      exact ⟨by rw [hv.out, if_pos rfl], hbel.out⟩
theorem valid_ok (A : Option Addr) (c : Nat) (ls : List (List S31)) (w : World) (hr : Kd.C (Kd.slice 31 k31) w A ls.length ls) (hc : ls.length ≤ c) (h : validL ls = 0) :
    Calls Tryd.prog 62 #[.slice A ls.length c] w fun e w' => e = .returned (.tuple #[]) ∧ Below w.heap.size w w' :=
  (valid_post A c ls w hr hc).mono fun e w' ⟨h1, h2⟩ => ⟨by rw [if_pos h] at h1; exact h1, h2⟩
theorem valid_bad (A : Option Addr) (c : Nat) (ls : List (List S31)) (w : World) (hr : Kd.C (Kd.slice 31 k31) w A ls.length ls) (hc : ls.length ≤ c) (z : Int) (hz : validL ls = z) (h : ¬ z = 0) :
    Calls Tryd.prog 62 #[.slice A ls.length c] w fun e w' => e = .panicked (failE z) ∧ Below w.heap.size w w' :=
  (valid_post A c ls w hr hc).mono fun e w' ⟨h1, h2⟩ => ⟨by rw [hz, if_neg h] at h1; exact h1, h2⟩
end Go.Proofs.YtgkebfeggekkgaaDoor.Given
end
