/- The contracts of the reference's Actions, Merge and Walk; and that they are those of the program. -/
import Derived.Test.YtgkebfeggekkgaaDoorJ4
import Derived.Test.YtgkebfeggekkgaaDoorPTx22
import Derived.Test.YtgkebfeggekkgaaDoorHn
set_option linter.unusedVariables false
set_option linter.unusedSimpArgs false
namespace Go.Proofs.YtgkebfeggekkgaaDoor.Given
open Go.RowKit Go.Proofs.YtgkebfeggekkgaaDoor.PT Go.Proofs.YtgkebfeggekkgaaDoorW.PrintWords Go.Proofs.YtgkebfeggekkgaaDoorW.PrintLast Go.Proofs.YtgkebfeggekkgaaDoorW.PrintMore

theorem rdJ (l : List Int) (i : Nat) (h : i < l.length) : rd l (i : Int) = l[i] := by
  unfold rd
  simp [h]
theorem neg_iff (n : Int) : negB n = true ↔ n < -1 := by
  unfold negB
  rw [decide_eq_true_iff]
theorem validDo_loop (b : Bool) (l : List Int) (hl : l.length ≤ 1073741824) : ∀ (d i k : Nat), i + d = l.length → d < k → mjolnerref09_validDo.l0 k (i : Int) b l = some ((b || decide (l = [])) && !(l.drop i).any negB) := by
  intro d
  induction d with
  | zero =>
    intro i k hi hk
    obtain ⟨k, rfl⟩ : ∃ m, k = m + 1 := ⟨k - 1, by omega⟩
    have q1 : ¬ (i : Int) < (l.length : Int) := by omega
    rw [mjolnerref09_validDo.l0, if_neg q1, List.drop_of_length_le (by omega)]
    cases b with
    | true => rfl
    | false =>
      rw [if_neg (by decide)]
      show some ((l.length : Int) == 0) = some (decide (l = []) && true)
      rw [Bool.and_true]
      congr 1
      cases l with
      | nil => rfl
      | cons x r =>
        rw [decide_eq_false (by simp), beq_eq_false_iff_ne]
        simp
        omega
  | succ d ih =>
    intro i k hi hk
    obtain ⟨k, rfl⟩ : ∃ m, k = m + 1 := ⟨k - 1, by omega⟩
    have hil : i < l.length := by omega
    have q1 : (i : Int) < (l.length : Int) := by omega
    have q2 : (0 : Int) ≤ (i : Int) := by omega
    have h5 : wrap64 ((i : Int) + 1) = ((i + 1 : Nat) : Int) := w64 (by omega) (by omega)
    have h4 := ih (i + 1) k (by omega) (by omega)
    rw [mjolnerref09_validDo.l0, if_pos q1, if_pos q2, rdJ l i hil, h5, h4, List.drop_eq_getElem_cons hil, List.any_cons]
    by_cases hn : l[i] < -1
    · rw [if_pos hn, (neg_iff _).2 hn]
      simp
    · rw [if_neg hn]
      have : negB l[i] = false := by
        rw [Bool.eq_false_iff]
        exact fun h => hn ((neg_iff _).1 h)
      rw [this, Bool.false_or]
theorem validDo_f (b : Bool) (l : List Int) (hl : l.length ≤ 1073741824) (k : Nat) (hk : l.length < k) : mjolnerref09_validDo.f k b l = some (actOk b l) := by
  have := validDo_loop b l hl l.length 0 k (by omega) hk
  rw [List.drop_zero] at this
  exact this
/-- put stops behind 2001 -/
def putL (a b : List Int) : List Int := (fillL b a).take 2001
theorem put_j1 (k : Nat) (a b out : List Int) (i : Int) : mjolnerref09_put.j1 (k + 1) a b out i false = some out := by rw [mjolnerref09_put.j1, if_neg (by decide)]
theorem put_l1 (a b : List Int) (hb : b.length ≤ 1073741824) (i : Nat) (K : Nat) (hnext : ∀ (k : Nat) (out : List Int), K ≤ k → out.length ≤ 2001 → mjolnerref09_put.l0 k a b out (wrap64 ((i : Int) + 1)) = some ((out ++ fillL b (a.drop (i + 1))).take 2001)) :
    ∀ (e j k : Nat) (out : List Int), j + e = b.length → e + K + 1 ≤ k → out.length ≤ 2001 → mjolnerref09_put.l1 k a b out (i : Int) (j : Int) = some ((out ++ (b.drop j ++ fillL b (a.drop (i + 1)))).take 2001) := by
  intro e
  induction e with
  | zero =>
    intro j k out hj hk ho
    obtain ⟨k, rfl⟩ : ∃ m, k = m + 1 := ⟨k - 1, by omega⟩
    have q1 : ¬ (j : Int) < (b.length : Int) := by omega
    rw [mjolnerref09_put.l1, if_neg q1, hnext k out (by omega) ho, List.drop_of_length_le (show b.length ≤ j by omega), List.nil_append]
  | succ e ih =>
    intro j k out hj hk ho
    obtain ⟨k, rfl⟩ : ∃ m, k = m + 1 := ⟨k - 1, by omega⟩
    have hjl : j < b.length := by omega
    have q1 : (j : Int) < (b.length : Int) := by omega
    have q2 : (0 : Int) ≤ (j : Int) := by omega
    have h5 : wrap64 ((j : Int) + 1) = ((j + 1 : Nat) : Int) := w64 (by omega) (by omega)
    rw [mjolnerref09_put.l1, if_pos q1]
    by_cases h2 : out.length ≤ 2000
    · have q3 : (out.length : Int) ≤ 2000 := by omega
      have q4 : out.length < 17592186044416 := by omega
      rw [if_pos q3, if_pos q2, if_pos q4, rdJ b j hjl, h5, ih (j + 1) k (out ++ [b[j]]) (by omega) (by omega) (by rw [List.length_append, List.length_singleton]; omega), List.drop_eq_getElem_cons hjl, List.append_assoc]
      rfl
    · have q3 : ¬ (out.length : Int) ≤ 2000 := by omega
      have ho2 : out.length = 2001 := by omega
      rw [if_neg q3, hnext k out (by omega) ho, List.take_append_of_le_length (by omega), List.take_append_of_le_length (by omega)]
theorem put_l0 (a b : List Int) (ha : a.length ≤ 1073741824) (hb : b.length ≤ 1073741824) (hv : ∀ x ∈ a, -1 ≤ x) : ∀ (d i k : Nat) (out : List Int), i + d = a.length → d * (b.length + 10) + 10 ≤ k → out.length ≤ 2001 →
    mjolnerref09_put.l0 k a b out (i : Int) = some ((out ++ fillL b (a.drop i)).take 2001) := by
  intro d
  induction d with
  | zero =>
    intro i k out hi hk ho
    obtain ⟨k, rfl⟩ : ∃ m, k = m + 2 := ⟨k - 2, by omega⟩
    have q1 : ¬ (i : Int) < (a.length : Int) := by omega
    rw [mjolnerref09_put.l0, if_neg q1, put_j1, List.drop_of_length_le (by omega)]
    show some out = some ((out ++ []).take 2001)
    rw [List.append_nil, List.take_of_length_le ho]
  | succ d ih =>
    intro i k out hi hk ho
    obtain ⟨m, hm⟩ : ∃ m, m = d * (b.length + 10) := ⟨_, rfl⟩
    rw [Nat.add_mul, ← hm, Nat.one_mul] at hk
    obtain ⟨k, rfl⟩ : ∃ m, k = m + 2 := ⟨k - 2, by omega⟩
    have hil : i < a.length := by omega
    have q1 : (i : Int) < (a.length : Int) := by omega
    have q2 : (0 : Int) ≤ (i : Int) := by omega
    have h5 : wrap64 ((i : Int) + 1) = ((i + 1 : Nat) : Int) := w64 (by omega) (by omega)
    have hx := hv a[i] (List.getElem_mem _)
    rw [mjolnerref09_put.l0, if_pos q1]
    by_cases h2 : out.length ≤ 2000
    · have q3 : decide ((out.length : Int) ≤ 2000) = true := decide_eq_true (by omega)
      have q4 : out.length < 17592186044416 := by omega
      rw [q3, mjolnerref09_put.j1, if_pos rfl, if_pos q2, if_pos q1, rdJ a i hil]
      have hd := List.drop_eq_getElem_cons hil
      by_cases h0 : a[i] ≥ 0
      · rw [if_pos h0, if_pos q4, h5, ih (i + 1) k (out ++ [a[i]]) (by omega) (by rw [← hm]; omega) (by rw [List.length_append, List.length_singleton]; omega), hd, fillL_cons, if_neg (by omega), List.append_assoc]
        rfl
      · rw [if_neg h0, hd, fillL_cons, if_pos (by omega)]
        have := put_l1 a b hb i (m + 10) (fun k out hk ho => by rw [h5]; exact ih (i + 1) k out (by omega) (by rw [← hm]; omega) ho) b.length 0 k out (by omega) (by omega) ho
        rw [List.drop_zero] at this
        exact this
    · have q3 : decide ((out.length : Int) ≤ 2000) = false := decide_eq_false (by omega)
      have ho2 : out.length = 2001 := by omega
      rw [q3, put_j1, List.take_append_of_le_length (by omega), List.take_of_length_le (by omega)]
theorem put_f (a b : List Int) (ha : a.length ≤ 1073741824) (hb : b.length ≤ 1073741824) (hv : ∀ x ∈ a, -1 ≤ x) : mjolnerref09_put.f (a.length * (b.length + 10) + 10) a b = some (putL a b) := by
  have := put_l0 a b ha hb hv a.length 0 (a.length * (b.length + 10) + 10) [] (by omega) (by omega) (by simp)
  rw [List.drop_zero, List.nil_append] at this
  exact this
/-- what fits: put returns what filled does; what does not is longer than 2000 -/
theorem fill_put (a b : List Int) : (fillF a b true = (putL a b, true) ∧ (putL a b).length ≤ 2000) ∨ (fillF a b true = ([], false) ∧ (putL a b).length = 2001) := by
  have hl := fillL_len b a
  have hn := innersN_le a
  unfold fillF putL
  by_cases hbad : fillBad a b true = true
  · right
    rw [if_pos hbad]
    refine ⟨rfl, ?_⟩
    rw [List.length_take]
    simp only [fillBad, Bool.or_eq_true, Bool.and_eq_true, decide_eq_true_eq, Bool.not_true, Bool.false_eq_true, false_or] at hbad
    rcases hbad with ⟨h1, h2⟩ | h2
    · omega
    · have : 0 ≤ innersN a * b.length := Nat.zero_le _
      omega
  · left
    rw [if_neg hbad]
    simp only [fillBad, Bool.or_eq_true, Bool.and_eq_true, decide_eq_true_eq, Bool.not_true, Bool.false_eq_true, false_or, not_or, not_and] at hbad
    obtain ⟨h1, h2⟩ := hbad
    have hle : (fillL b a).length ≤ 2000 := by
      by_cases h0 : 0 < innersN a
      · have := h1 h0
        omega
      · have h00 : innersN a = 0 := by omega
        rw [h00, Nat.zero_mul] at hl
        omega
    exact ⟨by rw [List.take_of_length_le (by omega)], by rw [List.length_take]; omega⟩
/-- the reference's walk, from the last do-part to the first one -/
def refW : List (List Int) → List Int
  | [] => []
  | a :: r => putL a (refW r)
theorem refW_len : ∀ ds, (refW ds).length ≤ 2001
  | [] => by simp [refW]
  | a :: r => by
    show ((fillL (refW r) a).take 2001).length ≤ 2001
    exact List.length_take_le _ _
theorem fill_nil : ∀ (a inner : List Int), innersN a = 0 → fillL inner a = a
  | [], _, _ => rfl
  | x :: r, inner, h => by
    rw [innersN_cons] at h
    split at h
    · omega
    · rename_i hx
      rw [fillL_cons, if_neg hx, fill_nil r inner h]
theorem walk_ref : ∀ ds : List (List Int), (walkL ds = (refW ds, true) ∧ (refW ds).length ≤ 2000) ∨ (walkL ds = ([], false) ∧ (refW ds).length = 2001)
  | [] => .inl ⟨rfl, by simp [refW]⟩
  | a :: r => by
    show (fillF a (walkL r).1 (walkL r).2 = (putL a (refW r), true) ∧ (putL a (refW r)).length ≤ 2000) ∨ (fillF a (walkL r).1 (walkL r).2 = ([], false) ∧ (putL a (refW r)).length = 2001)
    rcases walk_ref r with ⟨h1, h2⟩ | ⟨h1, h2⟩
    · rw [h1]
      exact fill_put a (refW r)
    · rw [h1]
      show (fillF a [] false = _ ∧ _) ∨ (fillF a [] false = _ ∧ _)
      have hl := fillL_len (refW r) a
      have hn := innersN_le a
      unfold fillF putL
      by_cases hbad : fillBad a [] false = true
      · right
        rw [if_pos hbad]
        refine ⟨rfl, ?_⟩
        rw [List.length_take]
        simp only [fillBad, Bool.or_eq_true, Bool.and_eq_true, decide_eq_true_eq, Bool.not_false, true_or, and_true] at hbad
        rcases hbad with hb | hb
        · have : 1 * (refW r).length ≤ innersN a * (refW r).length := Nat.mul_le_mul_right _ hb
          omega
        · have : 0 ≤ innersN a * (refW r).length := Nat.zero_le _
          omega
      · left
        rw [if_neg hbad]
        simp only [fillBad, Bool.or_eq_true, Bool.and_eq_true, decide_eq_true_eq, Bool.not_false, true_or, and_true, not_or] at hbad
        obtain ⟨g1, g2⟩ := hbad
        have h0 : innersN a = 0 := by omega
        rw [fill_nil a [] h0, fill_nil a (refW r) h0]
        exact ⟨by rw [List.take_of_length_le (by omega)], by rw [List.length_take]; omega⟩
set_option maxRecDepth 100000 in
set_option maxHeartbeats 1000000 in
theorem refActs_calls (b : Bool) (A : Option Addr) (c : Nat) (l : List Int) (w : World) (hr : Kd.C kI w A l.length l) (hc : l.length ≤ c) : Calls Tryd.prog 65 #[.agg #[.bool b, .slice A l.length c]] w (ActPost b l w) := by
  have hu39 := Tryd.underlying39
  have HR := Aside0.mk hr
  clear hr
  cases b with
  | true =>
    go_enter Tryd.func65, Tryd.ntmps65
    go_wp2
    go_ret
    have hb : Below w.heap.size w (w.alloc (.cells #[.bool true, .slice A l.length c] 39)) := (Below.refl _ _).alloc (Nat.le_refl _) _
    exact ⟨_, _, rfl, hc, Kd.C_below HR.out hb, hb⟩
  | false =>
    go_enter Tryd.func65, Tryd.ntmps65
    go_wp2
    go_ret
    have h := C_oneI (w.alloc (.cells #[.bool false, .slice A l.length c] 39)) (-1)
    rw [show (w.alloc (.cells #[.bool false, .slice A l.length c] 39)).heap.size = w.heap.size + 1 by simp] at h
    exact ⟨_, _, rfl, Nat.le_refl _, h, ((Below.refl _ _).alloc (Nat.le_refl _) _).alloc (by simp) _⟩
/-- what put returns, read -/
def GotI (w : World) (l : List Int) (e : Ending) (w' : World) : Prop := ∃ A c, e = .returned (.slice A l.length c) ∧ l.length ≤ c ∧ Kd.C kI w' A l.length l ∧ Below w.heap.size w w'
theorem put_calls (A : Option Addr) (c : Nat) (a : List Int) (B : Option Addr) (d : Nat) (b : List Int) (w : World) (hr : Kd.C kI w A a.length a) (hc : a.length ≤ c) (hr1 : Kd.C kI w B b.length b) (hd : b.length ≤ d) (ha : a.length ≤ 1073741824) (hb : b.length ≤ 1073741824) (hv : a.any negB = false) :
    Calls Tryd.prog 64 #[.slice A a.length c, .slice B b.length d] w (GotI w (putL a b)) := by
  refine (mjolnerref09_put.calls _ A c a B d b (putL a b) w hr hc hr1 hd (put_f a b ha hb (fun x hx => ?_))).mono ?_
  · have := List.any_eq_false.1 hv x hx
    have h2 : ¬ x < -1 := fun h => this ((neg_iff x).2 h)
    omega
  · rintro e w' ⟨v, rfl, hR, hb⟩
    obtain ⟨A2, c2, rfl, hc2, hC2⟩ := Kd.R_reads hR
    exact ⟨A2, c2, rfl, hc2, hC2, hb⟩
theorem validDo_calls (b : Bool) (A : Option Addr) (c : Nat) (l : List Int) (w : World) (hr : Kd.C kI w A l.length l) (hc : l.length ≤ c) (hl : l.length ≤ 1073741823) :
    Calls Tryd.prog 63 #[.agg #[.bool b, .slice A l.length c]] w fun e w' => e = .returned (.bool (actOk b l)) ∧ Below w.heap.size w w' :=
  mjolnerref09_validDo.calls (l.length + 1) b A c l _ w hr hc (validDo_f b l (by omega) _ (by omega))
theorem acts_any (b : Bool) (l : List Int) (h : actOk b l = true) : (actL b l).any negB = false := by
  unfold actOk at h
  simp only [Bool.and_eq_true, Bool.not_eq_true'] at h
  unfold actL
  split
  · exact h.2
  · decide
end Go.Proofs.YtgkebfeggekkgaaDoor.Given
