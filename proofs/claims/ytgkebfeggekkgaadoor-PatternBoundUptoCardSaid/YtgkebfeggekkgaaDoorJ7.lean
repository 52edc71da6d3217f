/- The contract of filled. -/
import Derived.Test.YtgkebfeggekkgaaDoorJ6
import Derived.Lib.JoinLaws
section
set_option linter.unusedVariables false
set_option linter.unusedSimpArgs false
namespace Go.Proofs.YtgkebfeggekkgaaDoor.Given
open Go.RowKit Go.Proofs.YtgkebfeggekkgaaDoor.PT Go.Proofs.YtgkebfeggekkgaaDoorW.PrintWords Go.Proofs.YtgkebfeggekkgaaDoorW.PrintLast Go.Proofs.YtgkebfeggekkgaaDoorW.PrintMore

/-- how many of a list's actions are inner -/
def innersN : List Int → Nat
  | [] => 0
  | x :: r => if x = -1 then innersN r + 1 else innersN r
theorem innersN_le : ∀ l, innersN l ≤ l.length
  | [] => Nat.le_refl _
  | x :: r => by
    have := innersN_le r
    unfold innersN
    split <;> simp <;> omega
/-- others in the place of each inner -/
def fillL (inner : List Int) : List Int → List Int
  | [] => []
  | x :: r => if x = -1 then inner ++ fillL inner r else x :: fillL inner r
theorem fillL_cons (inner : List Int) (x : Int) (r : List Int) : fillL inner (x :: r) = if x = -1 then inner ++ fillL inner r else x :: fillL inner r := rfl
theorem innersN_cons (x : Int) (r : List Int) : innersN (x :: r) = if x = -1 then innersN r + 1 else innersN r := rfl
theorem fillL_append (inner : List Int) : ∀ a b, fillL inner (a ++ b) = fillL inner a ++ fillL inner b
  | [], b => rfl
  | x :: r, b => by
    rw [List.cons_append, fillL_cons, fillL_cons, fillL_append inner r b]
    split <;> simp
theorem innersN_append : ∀ a b, innersN (a ++ b) = innersN a + innersN b
  | [], b => by simp [innersN]
  | x :: r, b => by
    rw [List.cons_append, innersN_cons, innersN_cons, innersN_append r b]
    split <;> omega
theorem fillL_len (inner : List Int) : ∀ l, (fillL inner l).length + innersN l = l.length + innersN l * inner.length
  | [] => by simp [fillL, innersN]
  | x :: r => by
    have := fillL_len inner r
    unfold fillL innersN
    split
    · rw [List.length_append, List.length_cons, Nat.add_mul]; omega
    · rw [List.length_cons, List.length_cons]; omega
/-- are they too many, or wanted and not there -/
def fillBad (a inner : List Int) (ok : Bool) : Bool := (decide (0 < innersN a) && (!ok || decide (2000 < a.length - innersN a + innersN a * inner.length))) || decide (2000 < a.length - innersN a)
def fillF (a inner : List Int) (ok : Bool) : List Int × Bool := if fillBad a inner ok = true then ([], false) else (fillL inner a, true)
def FillPost (r : List Int × Bool) (w : World) (e : Ending) (w' : World) : Prop := ∃ v, e = .returned (.tuple #[v, .bool r.2]) ∧ Kd.R kI 3 w' w.heap.size (fun _ => True) v r.1 ∧ Below w.heap.size w w'
theorem take_innersN (l : List Int) (k : Nat) (h : k < l.length) : innersN (l.take (k + 1)) = innersN (l.take k) + (if l[k] = -1 then 1 else 0) := by
  rw [List.take_succ_eq_append_getElem h, innersN_append]
  simp [innersN]
theorem take_fillL (inner l : List Int) (k : Nat) (h : k < l.length) : fillL inner (l.take (k + 1)) = fillL inner (l.take k) ++ (if l[k] = -1 then inner else [l[k]]) := by
  rw [List.take_succ_eq_append_getElem h, fillL_append]
  congr 1
  unfold fillL
  split <;> simp [fillL]
theorem fillL_take_le (inner a : List Int) (k : Nat) : (fillL inner (a.take k)).length ≤ (fillL inner a).length := by
  conv => rhs; rw [← List.take_append_drop k a, fillL_append, List.length_append]
  omega
theorem R_roomI {W : World} {base g cap : Nat} {cur : Array Value} (hg : base ≤ g) (hh : W.heap[g]? = some (.cells cur 3 (0, 0))) (hc : cap ≤ maxLen) (hs : cur.size = cap * 1) : Kd.R kI 3 W base (fun _ => True) (.slice (some ⟨g, 0, none⟩) 0 cap) [] :=
  ⟨fun _ _ => trivial, [], ⟨rfl, .inr ⟨g, cap, cur, rfl, hg, hh, Nat.zero_le _, hc, hs, by simp⟩⟩, Reps.none _ _⟩
theorem rdI (l : List Int) (k : Nat) (h : k < l.length) : rd l (k : Int) = l[k] := by
  simp [rd, h]
set_option maxRecDepth 100000 in
set_option maxHeartbeats 2000000 in
theorem filled_bad (A : Option Addr) (c : Nat) (a : List Int) (B : Option Addr) (d : Nat) (inner : List Int) (ok : Bool) (w : World) (hr : Kd.C kI w A a.length a) (ha : a.length ≤ 1073741824) (hi : inner.length ≤ 1073741824) (hb : fillBad a inner ok = true) :
    Calls Tryd.prog 60 #[.slice A a.length c, .slice B inner.length d, .bool ok] w (FillPost ([], false) w) := by
  have HR := Aside0.mk hr
  have hu37 := Tryd.underlying37
  clear hr
  go_enter Tryd.func60, Tryd.ntmps60
  go_wp2
  go_loop [8, 16] (fun n i => ∃ k : Nat, k ≤ a.length ∧ i = .int .i64 k ∧ n = .int .i64 (innersN (a.take k))) (fun _ i => a.length - (intOf i).toNat)
  case atStart => exact ⟨0, Nat.zero_le _, rfl, rfl⟩
  case round =>
    obtain ⟨k, hk, rfl, rfl⟩ := hrel
    by_cases hlt : k < a.length
    · obtain ⟨ad, rfl, hx⟩ := Kd.at_int HR.out (k : Int) (by omega) (by omega)
      rw [Int.toNat_natCast] at hx
      have hrd := rdI a k hlt
      have hs := take_innersN a k hlt
      have hle := innersN_le (a.take k)
      rw [List.length_take] at hle
      generalize hgl : rd a (k : Int) = x at hx hrd
      rw [← hrd] at hs
      have HS := Aside0.mk hs
      clear hgl hrd hs
      have hle2 : innersN (a.take k) ≤ 1073741824 := by omega
      generalize hgq : innersN (a.take k) = q at HS hle2
      clear hle hgq
      by_cases hx1 : x = -1
      · subst hx1
        rw [if_pos rfl] at HS
        go_wp2
        exact ⟨⟨k + 1, by omega, by first | rfl | simp, by rw [HS.out]; first | rfl | simp⟩, by simp [intOf]; omega⟩
      · rw [if_neg hx1] at HS
        have d1 : (x == -1) = false := by simpa using hx1
        go_wp2
        exact ⟨⟨k + 1, by omega, by first | rfl | simp, by rw [HS.out]; first | rfl | simp⟩, by simp [intOf]; omega⟩
    · have hke : k = a.length := by omega
      subst hke
      rw [List.take_length]
      clear hlt hk
      have hn := innersN_le a
      unfold fillBad at hb
      generalize innersN a = n at hn hb
      generalize inner.length = m at hi hb
      generalize a.length = L at HR ha hn hb
      have hnm : n * m ≤ 1152921504606846976 := (show n * m ≤ 1073741824 * 1073741824 from Nat.mul_le_mul (by omega) hi)
      have hmul : IntKind.i64.wrap ((n : Int) * (m : Int)) = ((n * m : Nat) : Int) := by rw [← Int.natCast_mul]; exact IntWalk.i64_in _ (by omega)
      generalize n * m = p at hnm hmul hb
      have hsub : IntKind.i64.wrap ((L : Int) - (n : Int)) = ((L - n : Nat) : Int) := (IntWalk.i64_in _ (by omega)).trans (by omega)
      generalize hq : L - n = q at hsub hb
      by_cases h0 : 0 < n
      · have d0 : decide (0 < n) = true := decide_eq_true h0
        cases ok with
        | false =>
          clear hb
          go_wp2
          go_ret2
          exact ⟨_, rfl, Kd.R_nil _ _ _ _ _, Below.refl _ _⟩
        | true =>
          by_cases h1 : 2000 < q + p
          · have d1 : decide (2000 < (q : Int) + (p : Int)) = true := decide_eq_true (by omega)
            clear hb
            go_wp2
            go_ret2
            exact ⟨_, rfl, Kd.R_nil _ _ _ _ _, Below.refl _ _⟩
          · have d1 : decide (2000 < q + p) = false := decide_eq_false h1
            have d2 : decide (2000 < q) = true := by simpa [d0, d1] using hb
            have := of_decide_eq_true d2
            omega
      · have d0 : decide (0 < n) = false := decide_eq_false h0
        have d2 : decide (2000 < q) = true := by simpa [d0] using hb
        have d2i : decide (2000 < (q : Int)) = true := decide_eq_true (by have := of_decide_eq_true d2; omega)
        clear hb
        go_wp2
        go_ret2
        exact ⟨_, rfl, Kd.R_nil _ _ _ _ _, Below.refl _ _⟩
set_option maxRecDepth 100000 in
set_option maxHeartbeats 2000000 in
theorem filled_ok (A : Option Addr) (c : Nat) (a : List Int) (B : Option Addr) (d : Nat) (inner : List Int) (ok : Bool) (w : World) (hr : Kd.C kI w A a.length a) (hri : Kd.C kI w B inner.length inner) (ha : a.length ≤ 1073741824) (hi : inner.length ≤ 1073741824) (hb : fillBad a inner ok = false) :
    Calls Tryd.prog 60 #[.slice A a.length c, .slice B inner.length d, .bool ok] w (FillPost (fillL inner a, true) w) := by
  have HR := Aside0.mk hr
  have hu37 := Tryd.underlying37
  have HRI := Aside0.mk hri
  have hu3 := Tryd.underlying3
  clear hr hri
  go_enter Tryd.func60, Tryd.ntmps60
  go_wp2
  go_loop [8, 16] (fun n i => ∃ k : Nat, k ≤ a.length ∧ i = .int .i64 k ∧ n = .int .i64 (innersN (a.take k))) (fun _ i => a.length - (intOf i).toNat)
  case atStart => exact ⟨0, Nat.zero_le _, rfl, rfl⟩
  case round =>
    obtain ⟨k, hk, rfl, rfl⟩ := hrel
    by_cases hlt : k < a.length
    · obtain ⟨ad, rfl, hx⟩ := Kd.at_int HR.out (k : Int) (by omega) (by omega)
      rw [Int.toNat_natCast] at hx
      have hrd := rdI a k hlt
      have hs := take_innersN a k hlt
      have hle := innersN_le (a.take k)
      rw [List.length_take] at hle
      generalize hgl : rd a (k : Int) = x at hx hrd
      rw [← hrd] at hs
      have HS := Aside0.mk hs
      clear hgl hrd hs
      have hle2 : innersN (a.take k) ≤ 1073741824 := by omega
      generalize hgq : innersN (a.take k) = q at HS hle2
      clear hle hgq
      by_cases hx1 : x = -1
      · subst hx1
        rw [if_pos rfl] at HS
        go_wp2
        exact ⟨⟨k + 1, by omega, by first | rfl | simp, by rw [HS.out]; first | rfl | simp⟩, by simp [intOf]; omega⟩
      · rw [if_neg hx1] at HS
        have d1 : (x == -1) = false := by simpa using hx1
        go_wp2
        exact ⟨⟨k + 1, by omega, by first | rfl | simp, by rw [HS.out]; first | rfl | simp⟩, by simp [intOf]; omega⟩
    · have hke : k = a.length := by omega
      subst hke
      rw [List.take_length]
      clear hlt hk
      have hn := innersN_le a
      unfold fillBad at hb
      have HFL := Aside0.mk (fillL_len inner a)
      generalize innersN a = n at hn hb HFL
      have HM := Aside0.mk (rfl : inner.length = inner.length)
      generalize hgm : inner.length = m at hi hb HRI HFL
      generalize hgL : a.length = L at HR ha hn hb HFL
      have hnm : n * m ≤ 1152921504606846976 := (show n * m ≤ 1073741824 * 1073741824 from Nat.mul_le_mul (by omega) hi)
      have hmul : IntKind.i64.wrap ((n : Int) * (m : Int)) = ((n * m : Nat) : Int) := by rw [← Int.natCast_mul]; exact IntWalk.i64_in _ (by omega)
      generalize hgp : n * m = p at hnm hmul hb HFL
      have hsub : IntKind.i64.wrap ((L : Int) - (n : Int)) = ((L - n : Nat) : Int) := (IntWalk.i64_in _ (by omega)).trans (by omega)
      generalize hq : L - n = q at hsub hb
      by_cases h0 : 0 < n
      · have d0 : decide (0 < n) = true := decide_eq_true h0
        simp only [d0, Bool.true_and, Bool.or_eq_false_iff] at hb
        obtain ⟨⟨e1, d1⟩, d2⟩ := hb
        obtain rfl : ok = true := by simpa using e1
        have hsum : q + p ≤ 2000 := by have := of_decide_eq_false d1; omega
        have HLen := Aside0.mk (fun k => Nat.le_trans (fillL_take_le inner a k) (show (fillL inner a).length ≤ 2000 by have := HFL.out; omega))
        have hmk : ∀ W : World, (Instr.makeSlice 37 (.int .i64 0) (.int .i64 ((q : Int) + (p : Int)))).run Tryd.prog W = .ok (.slice (some ⟨W.heap.size, 0, none⟩) 0 (q + p)) (W.alloc (.cells (madeCells #[.int .i64 0] (q + p)) 3)) := fun W => by
          rw [← Int.natCast_add]
          exact run_make_room 37 3 (.int .i64 0) 8 hu37 info3 rfl .i64 .i64 (q + p) (by omega) (by omega) W
        replace d1 : decide (2000 < (q : Int) + (p : Int)) = false := decide_eq_false (by omega)
        have d2i : decide (2000 < (q : Int)) = false := decide_eq_false (by omega)
        clear e1
        go_wp2
        have HR0 := Aside0.mk (R_roomI (W := w.alloc (.cells (madeCells #[.int .i64 0] (q + p)) 3)) (base := w.heap.size) (g := w.heap.size) (cap := q + p) (Nat.le_refl _) (show (w.heap.push (Obj.cells (madeCells #[.int .i64 0] (q + p)) 3))[w.heap.size]? = some (Obj.cells (madeCells #[.int .i64 0] (q + p)) 3) by simp) (by unfold maxLen; omega) (by simp [madeCells]))
        have HB0 := Aside0.mk ((Below.refl w.heap.size w).alloc (Nat.le_refl _) (.cells (madeCells #[.int .i64 0] (q + p)) 3))
        go_loopw [11, 62] (fun v i W => ∃ k : Nat, k ≤ L ∧ i = .int .i64 k ∧ Aside0 (Kd.R kI 3 W w.heap.size (fun _ => True) v (fillL inner (a.take k))) ∧ Aside0 (Below w.heap.size w W)) (fun _ i _ => L - (intOf i).toNat)
        case atStart => exact ⟨0, Nat.zero_le _, rfl, HR0, HB0⟩
        case round =>
          obtain ⟨k, hk, rfl, hR1, hB1⟩ := hrel
          by_cases hlt : k < L
          · obtain ⟨ad, rfl, hx⟩ := Kd.at_int (Kd.C_below HR.out hB1.out) (k : Int) (by omega) (by omega)
            rw [Int.toNat_natCast] at hx
            have hrd := rdI a k (by omega)
            have hs := take_fillL inner a k (by omega)
            have hl2 := HLen.out (k + 1)
            generalize hgl : rd a (k : Int) = x at hx hrd
            rw [← hrd] at hs
            rw [hs, List.length_append] at hl2
            have HS := Aside0.mk hs
            have HL2 := Aside0.mk hl2
            have hsz := hB1.out.size
            clear hgl hrd hs hl2
            generalize fillL inner (a.take k) = xs at HS HL2 hR1
            obtain ⟨A6, c6, rfl, hc6, _⟩ := hR1.out.2.reads
            by_cases hx1 : x = -1
            · subst hx1
              rw [if_pos rfl] at HS HL2
              go_wp2_with (first | ((with_reducible refine gate_builtin (b := .append) (xs := #[.tmp 68, .tmp 69]) rfl ?_); at_builtin; refine Kd.R_append_rows kI (w0 := w) w.heap.size rfl (.tmp 68) (.tmp 69) 37 3 (.int .i64 0) 8 rfl Tryd.underlying37 info3 rfl (by decide) (by omega) (.slice A6 xs.length c6) xs inner _ _ _ (fun _ => True) (fun _ => False) rfl rfl ?aO ?aR (fun _ _ h => h) (fun _ h => h.elim) ?aF ?aB ?aS ?aL ?_; (case aR => exact Kd.C_below HRI.out hB1.out); (case aB => exact hB1.out); (case aF => exact (fun _ _ => trivial)); (case aO => exact hR1.out); (case aS => exact hsz); (case aL => have := HL2.out; omega); intro v1 w5 ho hb hg hat; rw [← HS.out] at ho; have HO := Aside0.mk ho; have HB := Aside0.mk hb; clear ho hb hg hat))
              exact ⟨⟨k + 1, by omega, by first | rfl | simp, HO, HB⟩, by simp [intOf]; omega⟩
            · rw [if_neg hx1] at HS HL2
              have d3 : (x == -1) = false := by simpa using hx1
              clear hx1
              go_wp2_with (first | ((with_reducible refine gate_builtin (b := .append) (xs := #[.tmp 71, .tmp 73]) rfl ?_); at_builtin; refine Kd.R_append kI (w0 := w) w.heap.size rfl (.tmp 71) (.tmp 73) 37 3 (.int .i64 0) 8 rfl Tryd.underlying37 info3 rfl (by decide) (by omega) (.slice A6 xs.length c6) xs x [.int .i64 x] (fun _ => True) (fun _ => False) rfl rfl ?aP (fun _ hk => hk.elim) ?aF ?aO ?aB ?aS ?aL ?_; (case aP => exact rfl); (case aB => exact hB1.out); (case aF => exact (fun _ _ => trivial)); (case aO => exact hR1.out); (case aS => exact hsz); (case aL => have := HL2.out; simp at this; omega); intro v1 w5 ho hb hg hat; rw [← HS.out] at ho; have HO := Aside0.mk ho; have HB := Aside0.mk hb; clear ho hb hg hat))
              exact ⟨⟨k + 1, by omega, by first | rfl | simp, HO, HB⟩, by simp [intOf]; omega⟩
          · have hke : k = L := by omega
            subst hke
            rw [← hgL, List.take_length] at hR1
            obtain ⟨A6, c6, hv, hc6, _⟩ := hR1.out.2.reads
            generalize (fillL inner a).length = mm at hv
            subst hv
            go_wp2
            go_ret2
            exact ⟨_, rfl, hR1.out, hB1.out⟩
      · have d0 : decide (0 < n) = false := decide_eq_false h0
        simp only [d0, Bool.false_and, Bool.false_or] at hb
        have hq2 : q ≤ 2000 := by have := of_decide_eq_false hb; omega
        obtain rfl : n = 0 := by omega
        rw [Nat.zero_mul] at hgp
        subst hgp
        obtain rfl : L = q := by omega
        have HLen := Aside0.mk (fun k => Nat.le_trans (fillL_take_le inner a k) (show (fillL inner a).length ≤ 2000 by have := HFL.out; omega))
        have hmk : ∀ W : World, (Instr.makeSlice 37 (.int .i64 0) (.int .i64 (L : Int))).run Tryd.prog W = .ok (.slice (some ⟨W.heap.size, 0, none⟩) 0 L) (W.alloc (.cells (madeCells #[.int .i64 0] L) 3)) := fun W =>
          run_make_room 37 3 (.int .i64 0) 8 hu37 info3 rfl .i64 .i64 L (by omega) (by omega) W
        have d2i : decide (2000 < (L : Int)) = false := decide_eq_false (by omega)
        go_wp2
        have HR0 := Aside0.mk (R_roomI (W := w.alloc (.cells (madeCells #[.int .i64 0] (L)) 3)) (base := w.heap.size) (g := w.heap.size) (cap := L) (Nat.le_refl _) (show (w.heap.push (Obj.cells (madeCells #[.int .i64 0] (L)) 3))[w.heap.size]? = some (Obj.cells (madeCells #[.int .i64 0] (L)) 3) by simp) (by unfold maxLen; omega) (by simp [madeCells]))
        have HB0 := Aside0.mk ((Below.refl w.heap.size w).alloc (Nat.le_refl _) (.cells (madeCells #[.int .i64 0] (L)) 3))
        go_loopw [11, 62] (fun v i W => ∃ k : Nat, k ≤ L ∧ i = .int .i64 k ∧ Aside0 (Kd.R kI 3 W w.heap.size (fun _ => True) v (fillL inner (a.take k))) ∧ Aside0 (Below w.heap.size w W)) (fun _ i _ => L - (intOf i).toNat)
        case atStart => exact ⟨0, Nat.zero_le _, rfl, HR0, HB0⟩
        case round =>
          obtain ⟨k, hk, rfl, hR1, hB1⟩ := hrel
          by_cases hlt : k < L
          · obtain ⟨ad, rfl, hx⟩ := Kd.at_int (Kd.C_below HR.out hB1.out) (k : Int) (by omega) (by omega)
            rw [Int.toNat_natCast] at hx
            have hrd := rdI a k (by omega)
            have hs := take_fillL inner a k (by omega)
            have hl2 := HLen.out (k + 1)
            generalize hgl : rd a (k : Int) = x at hx hrd
            rw [← hrd] at hs
            rw [hs, List.length_append] at hl2
            have HS := Aside0.mk hs
            have HL2 := Aside0.mk hl2
            have hsz := hB1.out.size
            clear hgl hrd hs hl2
            generalize fillL inner (a.take k) = xs at HS HL2 hR1
            obtain ⟨A6, c6, rfl, hc6, _⟩ := hR1.out.2.reads
            by_cases hx1 : x = -1
            · subst hx1
              rw [if_pos rfl] at HS HL2
              go_wp2_with (first | ((with_reducible refine gate_builtin (b := .append) (xs := #[.tmp 68, .tmp 69]) rfl ?_); at_builtin; refine Kd.R_append_rows kI (w0 := w) w.heap.size rfl (.tmp 68) (.tmp 69) 37 3 (.int .i64 0) 8 rfl Tryd.underlying37 info3 rfl (by decide) (by omega) (.slice A6 xs.length c6) xs inner _ _ _ (fun _ => True) (fun _ => False) rfl rfl ?aO ?aR (fun _ _ h => h) (fun _ h => h.elim) ?aF ?aB ?aS ?aL ?_; (case aR => exact Kd.C_below HRI.out hB1.out); (case aB => exact hB1.out); (case aF => exact (fun _ _ => trivial)); (case aO => exact hR1.out); (case aS => exact hsz); (case aL => have := HL2.out; omega); intro v1 w5 ho hb hg hat; rw [← HS.out] at ho; have HO := Aside0.mk ho; have HB := Aside0.mk hb; clear ho hb hg hat))
              exact ⟨⟨k + 1, by omega, by first | rfl | simp, HO, HB⟩, by simp [intOf]; omega⟩
            · rw [if_neg hx1] at HS HL2
              have d3 : (x == -1) = false := by simpa using hx1
              clear hx1
              go_wp2_with (first | ((with_reducible refine gate_builtin (b := .append) (xs := #[.tmp 71, .tmp 73]) rfl ?_); at_builtin; refine Kd.R_append kI (w0 := w) w.heap.size rfl (.tmp 71) (.tmp 73) 37 3 (.int .i64 0) 8 rfl Tryd.underlying37 info3 rfl (by decide) (by omega) (.slice A6 xs.length c6) xs x [.int .i64 x] (fun _ => True) (fun _ => False) rfl rfl ?aP (fun _ hk => hk.elim) ?aF ?aO ?aB ?aS ?aL ?_; (case aP => exact rfl); (case aB => exact hB1.out); (case aF => exact (fun _ _ => trivial)); (case aO => exact hR1.out); (case aS => exact hsz); (case aL => have := HL2.out; simp at this; omega); intro v1 w5 ho hb hg hat; rw [← HS.out] at ho; have HO := Aside0.mk ho; have HB := Aside0.mk hb; clear ho hb hg hat))
              exact ⟨⟨k + 1, by omega, by first | rfl | simp, HO, HB⟩, by simp [intOf]; omega⟩
          · have hke : k = L := by omega
            subst hke
            rw [← hgL, List.take_length] at hR1
            obtain ⟨A6, c6, hv, hc6, _⟩ := hR1.out.2.reads
            generalize (fillL inner a).length = mm at hv
            subst hv
            go_wp2
            go_ret2
            exact ⟨_, rfl, hR1.out, hB1.out⟩
theorem filled_calls (A : Option Addr) (c : Nat) (a : List Int) (B : Option Addr) (d : Nat) (inner : List Int) (ok : Bool) (w : World) (hr : Kd.C kI w A a.length a) (hri : Kd.C kI w B inner.length inner) (ha : a.length ≤ 1073741824) (hi : inner.length ≤ 1073741824) :
    Calls Tryd.prog 60 #[.slice A a.length c, .slice B inner.length d, .bool ok] w (FillPost (fillF a inner ok) w) := by
  unfold fillF
  by_cases h : fillBad a inner ok = true
  · rw [if_pos h]
    exact filled_bad A c a B d inner ok w hr ha hi h
  · rw [if_neg h]
    exact filled_ok A c a B d inner ok w hr hri ha hi (by simpa using h)
end Go.Proofs.YtgkebfeggekkgaaDoor.Given
end
section
/- The contract of Walk's closure. -/
set_option linter.unusedVariables false
set_option linter.unusedSimpArgs false
namespace Go.Proofs.YtgkebfeggekkgaaDoor.Given
open Go.RowKit Go.Proofs.YtgkebfeggekkgaaDoor.PT Go.Proofs.YtgkebfeggekkgaaDoorW.PrintWords Go.Proofs.YtgkebfeggekkgaaDoorW.PrintLast Go.Proofs.YtgkebfeggekkgaaDoorW.PrintMore

/-- the walk of actions, the root's first -/
def walkL : List (List Int) → List Int × Bool
  | [] => ([], true)
  | a :: r => fillF a (walkL r).1 (walkL r).2
theorem fillF_len (a inner : List Int) (ok : Bool) : (fillF a inner ok).1.length ≤ 2000 := by
  unfold fillF
  split
  · simp
  · rename_i h
    have hl := fillL_len inner a
    have hn := innersN_le a
    simp only [fillBad, Bool.or_eq_true, Bool.and_eq_true, decide_eq_true_eq, not_or, not_and, Bool.not_eq_true', Bool.not_eq_false] at h
    obtain ⟨h1, h2⟩ := h
    show (fillL inner a).length ≤ 2000
    by_cases h0 : 0 < innersN a
    · have := (h1 h0)
      omega
    · have h00 : innersN a = 0 := by omega
      rw [h00, Nat.zero_mul] at hl
      omega
theorem walkL_len : ∀ ds, (walkL ds).1.length ≤ 2000
  | [] => by simp [walkL]
  | a :: r => fillF_len _ _ _
/-- what the closure finds: the actions' row, and itself -/
def WalkIn (W : World) (ba pa pw : Nat) (ds : List (List Int)) : Prop :=
  W.cell? ⟨pa, 0, none⟩ = some (.slice (some ⟨ba, 0, none⟩) ds.length ds.length) ∧ W.cell? ⟨pw, 0, none⟩ = some (.func (.func 59) #[] #[.pointer (some ⟨pa, 0, none⟩), .pointer (some ⟨pw, 0, none⟩)]) ∧
  ∀ (j : Nat) (h : j < ds.length), ∃ A c, W.cell? ⟨ba, j, none⟩ = some (.slice A ds[j].length c) ∧ Kd.C kI W A ds[j].length ds[j]
theorem WalkIn.keep {W W' : World} {ba pa pw : Nat} {ds : List (List Int)} (h : WalkIn W ba pa pw ds) (hb : Below W.heap.size W W') : WalkIn W' ba pa pw ds := by
  obtain ⟨h1, h2, h3⟩ := h
  refine ⟨(bcell hb (World.block_lt_of_cell? W _ h1)).trans h1, (bcell hb (World.block_lt_of_cell? W _ h2)).trans h2, fun j hj => ?_⟩
  obtain ⟨A, c, h4, h5⟩ := h3 j hj
  exact ⟨A, c, (bcell hb (World.block_lt_of_cell? W _ h4)).trans h4, Kd.C_below h5 hb⟩
set_option maxRecDepth 100000 in
set_option maxHeartbeats 400000 in
theorem walk_closure {W0 : World} {ba pa pw : Nat} {ds : List (List Int)} (h : WalkIn W0 ba pa pw ds) (hl : ∀ a ∈ ds, a.length ≤ 1073741824) (h40 : ds.length ≤ 40) :
    ∀ n k, k + n = ds.length → ∀ W, Below W0.heap.size W0 W → Calls Tryd.prog 59 #[.int .i64 k, .pointer (some ⟨pa, 0, none⟩), .pointer (some ⟨pw, 0, none⟩)] W (FillPost (walkL (ds.drop k)) W) := by
  intro n
  induction n with
  | zero =>
    intro k hk W hb
    obtain ⟨h1, h2, h3⟩ := h.keep hb
    obtain rfl : k = ds.length := by omega
    have hu82 := Tryd.underlying82
    rw [List.drop_length]
    clear h h3 hl hb hk
    generalize ds.length = L at h1
    go_enter Tryd.func59, Tryd.ntmps59
    go_wp2
    go_ret2
    exact ⟨_, rfl, Kd.R_nil _ _ _ _ _, Below.refl _ _⟩
  | succ n ih =>
    intro k hk W hb
    have hk2 : k < ds.length := by omega
    have HI := Aside0.mk (h.keep hb)
    have HC : Aside0 (Calls Tryd.prog 59 #[.int .i64 ((k : Int) + 1), .pointer (some ⟨pa, 0, none⟩), .pointer (some ⟨pw, 0, none⟩)] W (FillPost (walkL (ds.drop (k + 1))) W)) := ⟨ih (k + 1) (by omega) W hb⟩
    obtain ⟨h1, h2, h3⟩ := h.keep hb
    have ha := hl ds[k] (List.getElem_mem _)
    have hdrop : ds.drop k = ds[k] :: ds.drop (k + 1) := List.drop_eq_getElem_cons hk2
    rw [hdrop]
    show Calls Tryd.prog 59 _ W (FillPost (fillF ds[k] (walkL (ds.drop (k + 1))).1 (walkL (ds.drop (k + 1))).2) W)
    have hwl := walkL_len (ds.drop (k + 1))
    obtain ⟨A, c, h4, h5⟩ := h3 k hk2
    have H5 := Aside0.mk h5
    have HA := Aside0.mk ha
    have HW := Aside0.mk hwl
    have hne : ((k : Int) == (ds.length : Int)) = false := by simp; omega
    have hneN : (k == ds.length) = false := by simp; omega
    have hw1 : IntKind.i64.wrap ((k : Int) + 1) = (k : Int) + 1 := IntWalk.i64_in _ (by omega)
    clear h h3 hl hdrop h5 hwl ha hb ih
    generalize hgx : ds[k] = x at h4 H5 HA ⊢
    have HX := Aside0.mk hgx
    clear hgx
    generalize walkL (ds.drop (k + 1)) = r at HC HW ⊢
    obtain ⟨r1, r2⟩ := r
    have HK := Aside0.mk hk2
    have hkL := hk2
    generalize hgL : ds.length = L at h1 hk hkL hne hneN
    have HL := Aside0.mk hgL
    clear hgL hk
    go_enter Tryd.func59, Tryd.ntmps59
    go_wp2_with (first | (go_at_call 59; (with_reducible refine HC.out.mono ?_); rintro e w1 ⟨v, rfl, hR1, hB1⟩; obtain ⟨A1, c1, rfl, hc1, hC1⟩ := Kd.R_reads hR1; obtain ⟨h1, h2, h3⟩ := HI.out.keep hB1; rw [HL.out] at h1; obtain ⟨A, c, h4, h5⟩ := h3 k HK.out; rw [HX.out] at h4 h5; have HF := Aside0.mk (filled_calls A c x A1 c1 r1 r2 w1 h5 hC1 HA.out (Nat.le_trans HW.out (by decide))); have HB1 := Aside0.mk hB1; clear h3 h5 hC1 hR1 hB1 hc1) | (go_at_call 60; (with_reducible refine HF.out.mono ?_); rintro e w2 ⟨v2, rfl, hR2, hB2⟩; obtain ⟨A2, c2, rfl, hc2, hC2⟩ := Kd.R_reads hR2; have HR2 := Aside0.mk hR2; have HB2 := Aside0.mk hB2; clear hR2 hB2 hC2 hc2))
    go_ret2
    exact ⟨_, rfl, Kd.R_lower HR2.out HB1.out.size, HB1.out.trans (HB2.out.mono HB1.out.size)⟩
end Go.Proofs.YtgkebfeggekkgaaDoor.Given
end
