/- The contracts of slices.Grow and slices.Concat at patterns, and of extended and Extend. -/
import Derived.Test.YtgkebfeggekkgaaDoorJ6
import Derived.Lib.Walk
import Derived.Lib.SliceRun
set_option linter.unusedVariables false
set_option linter.unusedSimpArgs false
set_option linter.unusedSectionVars false
namespace Go.Proofs.YtgkebfeggekkgaaDoor.Given
open Go.RowKit Go.Proofs.YtgkebfeggekkgaaDoor.PT Go.Proofs.YtgkebfeggekkgaaDoorW.PrintWords Go.Proofs.YtgkebfeggekkgaaDoorW.PrintLast Go.Proofs.YtgkebfeggekkgaaDoorW.PrintMore

def GrowPost (w : World) (e : Ending) (w' : World) : Prop := ∃ v, e = .returned v ∧ Kd.R k31 31 w' w.heap.size (fun _ => True) v [] ∧ Below w.heap.size w w'
theorem zeros_size (z : Array Value) (n : Nat) : (Builtin.zeroCells z n).size = n * z.size := by simp [Builtin.zeroCells]
set_option maxRecDepth 100000 in
set_option maxHeartbeats 1000000 in
theorem grow_calls (n : Nat) (w : World) (hn : n ≤ 1000000) : Calls Tryd.prog 95 #[.slice none 0 0, .int .i64 n] w (GrowPost w) := by
  obtain ⟨i0, hi, hz0, hz1, hz2⟩ := info_parts info31
  have hu24 := Tryd.underlying24
  have hu3 := Tryd.underlying3
  by_cases h0 : n = 0
  · subst h0
    go_enter Tryd.func95, Tryd.ntmps95
    go_wp2
    go_ret
    exact ⟨_, rfl, Kd.R_nil _ _ _ _ _, Below.refl _ _⟩
  · have hrz : ∀ ty, (Builtin.append_ #[24, 3] ty #[.slice none 0 0, .int .i64 n]).run Tryd.prog w = .ok (.slice (some ⟨w.heap.size, 0, none⟩) n (grownCap w n 0 31)) (w.drew.alloc (.cells (Builtin.zeroCells (Value.agg #[(.int .i64 0), (.int .i64 0), (.int .i64 0)]).cells n ++ Builtin.zeroCells (Value.agg #[(.int .i64 0), (.int .i64 0), (.int .i64 0)]).cells (grownCap w n 0 31 - n)) 31)) :=
      fun ty => Lib.run_append_nil_zeros w 24 3 ty 31 i0 _ .i64 .i64 hu24 hu3 hi hz0 n (by omega) (by omega) (by omega) (by rw [hz2]; omega)
    have hge := grownCap_ge w n 0 31
    have hle := grownCap_le_maxLen w n 0 31 (by unfold maxLen; omega)
    have hpos : 0 < n := by omega
    have hsz : (Builtin.zeroCells (Value.agg #[(.int .i64 0), (.int .i64 0), (.int .i64 0)]).cells n ++ Builtin.zeroCells (Value.agg #[(.int .i64 0), (.int .i64 0), (.int .i64 0)]).cells (grownCap w n 0 31 - n)).size = grownCap w n 0 31 * 3 := by
      rw [Array.size_append, zeros_size, zeros_size]
      show n * 3 + (grownCap w n 0 31 - n) * 3 = _
      omega
    generalize (Builtin.zeroCells (Value.agg #[(.int .i64 0), (.int .i64 0), (.int .i64 0)]).cells n ++ Builtin.zeroCells (Value.agg #[(.int .i64 0), (.int .i64 0), (.int .i64 0)]).cells (grownCap w n 0 31 - n)) = cur at hrz hsz
    generalize grownCap w n 0 31 = G at hrz hge hle hsz
    have HS := Aside0.mk hsz
    have HL := Aside0.mk hle
    have hG63 : G ≤ 9223372036854775807 := by unfold maxLen at hle; omega
    clear h0 hsz hi hz0 hz1 hz2 hle
    go_enter Tryd.func95, Tryd.ntmps95
    go_wp2_with (at_builtin; refine Lib.wpList_append_run _ rfl _ _ _ _ rfl _ _ rfl rfl _ _ (hrz _) ?_)
    go_ret
    refine ⟨_, rfl, R_room (cur := cur) (by simp) (show (w.heap.push (Obj.cells cur 31))[w.heap.size]? = some (Obj.cells cur 31) by simp) HL.out HS.out, ?_⟩
    exact (below_drew (Below.refl _ _)).alloc (by simp) _
/-- how long lists are together -/
def total (ls : List (List S31)) : Nat := (ls.map List.length).sum
theorem total_succ (ls : List (List S31)) (k : Nat) (h : k < ls.length) : total (ls.take (k + 1)) = total (ls.take k) + ls[k].length := by
  unfold total
  rw [List.take_succ_eq_append_getElem h, List.map_append, List.sum_append]
  simp
theorem total_le (ls : List (List S31)) (k : Nat) : total (ls.take k) ≤ total ls := by
  have h : total ls = total (ls.take k) + total (ls.drop k) := by
    unfold total
    rw [← List.sum_append, ← List.map_append, List.take_append_drop]
  omega
theorem flat_succ (ls : List (List S31)) (k : Nat) (h : k < ls.length) : (ls.take (k + 1)).flatten = (ls.take k).flatten ++ ls[k] := by
  rw [List.take_succ_eq_append_getElem h, List.flatten_append]
  simp
theorem flat_len (ls : List (List S31)) : ls.flatten.length = total ls := by
  unfold total
  rw [List.length_flatten]
set_option maxRecDepth 100000 in
set_option maxHeartbeats 1000000 in
theorem concat_calls (A : Option Addr) (c : Nat) (ls : List (List S31)) (w : World) (hr : Kd.C (Kd.slice 31 k31) w A ls.length ls) (hc : ls.length ≤ c) (ht : total ls ≤ 1000000) :
    Calls Tryd.prog 84 #[.slice A ls.length c] w fun e w' => ∃ v, e = .returned v ∧ Kd.R k31 31 w' w.heap.size (fun _ => True) v ls.flatten ∧ Below w.heap.size w w' := by
  have hl : ls.length ≤ 9223372036854775807 := hr.2.1
  have HR := Aside0.mk hr
  have hu24 := Tryd.underlying24
  clear hr
  go_enter Tryd.func84, Tryd.ntmps84
  go_wp2
  go_loop [3, 11] (fun s i => ∃ k : Nat, k ≤ ls.length ∧ i = .int .i64 k ∧ s = .int .i64 (total (ls.take k))) (fun _ i => ls.length - (intOf i).toNat)
  case atStart => exact ⟨0, Nat.zero_le _, rfl, rfl⟩
  case round =>
    obtain ⟨k, hk, rfl, rfl⟩ := hrel
    by_cases hlt : k < ls.length
    · obtain ⟨ad, A0, c0, rfl, hx, hc0, hg⟩ := at_L5 HR.out (k : Int) (by omega) (by omega)
      rw [Int.toNat_natCast] at hx
      have hrd := rd5 ls k hlt
      have hs1 := total_succ ls k hlt
      have hs2 := total_le ls (k + 1)
      generalize hgl : rd_L5 ls (k : Int) = l at hx hc0 hg hrd
      rw [← hrd] at hs1
      have HS := Aside0.mk hs1
      have hz : decide (total (ls.take k) + l.length < 0) = false := decide_eq_false (by omega)
      have hb1 : total (ls.take k) + l.length ≤ 1000000 := by omega
      clear hgl hrd hg hs1 hs2
      generalize hgq : total (ls.take k) = q at HS hb1 hz
      go_wp2
      exact ⟨⟨k + 1, by omega, by first | rfl | simp, by rw [HS.out]; first | rfl | simp⟩, by simp [intOf]; omega⟩
    · have hke : k = ls.length := by omega
      subst hke
      rw [List.take_length]
      have HG := Aside0.mk (grow_calls (total ls) w ht)
      have hht := Aside0.mk ht
      generalize hgq : total ls = q at HG
      have HQ := Aside0.mk hgq
      clear hgq ht hlt hk
      go_wp2_with (first | (go_at_call 95; (with_reducible refine HG.out.mono ?_); rintro e w1 ⟨v, rfl, hR0, hB0⟩; have HR0 := Aside0.mk hR0; have HB0 := Aside0.mk hB0; clear hR0 hB0))
      go_loopw [6, 27] (fun v i W => ∃ k : Nat, k ≤ ls.length ∧ i = .int .i64 k ∧ Aside0 (Kd.R k31 31 W w.heap.size (fun _ => True) v (ls.take k).flatten) ∧ Aside0 (Below w.heap.size w W)) (fun _ i _ => ls.length - (intOf i).toNat)
      case atStart => exact ⟨0, Nat.zero_le _, rfl, HR0, HB0⟩
      case round =>
        obtain ⟨k, hk, rfl, hR1, hB1⟩ := hrel
        by_cases hlt : k < ls.length
        · obtain ⟨ad, A0, c0, rfl, hx, hc0, hg⟩ := at_L5 (Kd.C_below HR.out hB1.out) (k : Int) (by omega) (by omega)
          rw [Int.toNat_natCast] at hx
          have hrd := rd5 ls k hlt
          have hs1 := flat_succ ls k hlt
          have hf := flat_len (ls.take (k + 1))
          have ht2 := total_le ls (k + 1)
          generalize hgl : rd_L5 ls (k : Int) = l at hx hc0 hg hrd
          rw [← hrd] at hs1
          have HS := Aside0.mk hs1
          have HG2 := Aside0.mk hg
          have hsz := hB1.out.size
          have hlen : (ls.take k).flatten.length + l.length ≤ 1000000 := by
            rw [hs1, List.length_append] at hf
            have := hht.out
            omega
          have HLn := Aside0.mk hlen
          clear hgl hrd hg hs1 hf ht2 hlen
          generalize (ls.take k).flatten = xs at HS HLn hR1
          obtain ⟨A6, c6, rfl, hc6, _⟩ := hR1.out.2.reads
          go_wp2_with (first | ((with_reducible refine gate_builtin (b := .append) (xs := #[.tmp 31, .tmp 32]) rfl ?_); at_builtin; refine Kd.R_append_rows k31 (w0 := w) w.heap.size rfl (.tmp 31) (.tmp 32) 24 31 (.agg #[(.int .i64 0), (.int .i64 0), (.int .i64 0)]) 24 rfl Tryd.underlying24 info31 rfl (by decide) (by omega) (.slice A6 xs.length c6) xs l _ _ _ (fun _ => True) (fun _ => False) rfl rfl ?aO ?aR (fun _ _ h => h) (fun _ h => h.elim) ?aF ?aB ?aS ?aL ?_; (case aR => exact HG2.out); (case aB => exact hB1.out); (case aF => exact (fun _ _ => trivial)); (case aO => exact hR1.out); (case aS => exact hsz); (case aL => have := HLn.out; omega); intro v1 w5 ho hb hg hat; rw [← HS.out] at ho; have HO := Aside0.mk ho; have HB := Aside0.mk hb; clear ho hb hg hat))
          exact ⟨⟨k + 1, by omega, by first | rfl | simp, HO, HB⟩, by simp [intOf]; omega⟩
        · have hke : k = ls.length := by omega
          subst hke
          rw [List.take_length] at hR1
          obtain ⟨A6, c6, hv, hc6, _⟩ := hR1.out.2.reads
          generalize ls.flatten.length = m at hv
          subst hv
          go_wp2
          go_ret
          exact ⟨_, rfl, hR1.out, hB1.out⟩
theorem total_two (a b : List S31) : total [a, b] = a.length + b.length := by simp [total]
section
variable {A0 A1 : Option Addr} {c0 c1 : Nat} {l0 l1 : List S31} {w : World} (hr0 : Kd.C k31 w A0 l0.length l0) (hc0 : l0.length ≤ c0) (hr1 : Kd.C k31 w A1 l1.length l1) (hc1 : l1.length ≤ c1)
include hr0 hc0 hr1 hc1
theorem concat2 (hl : l0.length + l1.length ≤ 1000000) :
    Calls Tryd.prog 84 #[.slice (some ⟨w.heap.size, 0, none⟩) 2 2] (w.alloc (.cells #[.slice A0 l0.length c0, .slice A1 l1.length c1] 24)) fun e w' => ∃ v, e = .returned v ∧ Kd.R k31 31 w' w.heap.size (fun _ => True) v (l0 ++ l1) ∧ Below w.heap.size w w' := by
  refine (concat_calls (some ⟨w.heap.size, 0, none⟩) 2 [l0, l1] _ (C_two hr0 hc0 hr1 hc1) (Nat.le_refl _) (by rw [total_two]; exact hl)).mono ?_
  rintro e w' ⟨v, h1, h2, h3⟩
  refine ⟨v, h1, ?_, ((Below.refl _ _).alloc (Nat.le_refl _) _).trans (h3.mono (by simp))⟩
  have e : [l0, l1].flatten = l0 ++ l1 := by simp
  rw [e] at h2
  exact Kd.R_lower h2 (by simp)
set_option maxRecDepth 100000 in
set_option maxHeartbeats 1000000 in
theorem extended_ok (hl : l0.length + l1.length ≤ 40) : Calls Tryd.prog 53 #[.slice A0 l0.length c0, .slice A1 l1.length c1] w fun e w' => ∃ v, e = .returned v ∧ Kd.R k31 31 w' w.heap.size (fun _ => True) v (l0 ++ l1) ∧ Below w.heap.size w w' := by
  have HC := Aside0.mk (concat2 hr0 hc0 hr1 hc1 (by omega))
  have hz : decide ((40 : Int) < (l0.length : Int) + (l1.length : Int)) = false := decide_eq_false (by omega)
  clear hr0 hr1
  go_enter Tryd.func53, Tryd.ntmps53
  go_wp2_with (first | (go_at_call 51; (with_reducible refine (fail_false _ _).mono ?_); rintro e w2 ⟨rfl, rfl⟩) | (go_at_call 84; (with_reducible refine HC.out.mono ?_); rintro e w1 ⟨v, rfl, hR, hB⟩; have HR := Aside0.mk hR; have HB := Aside0.mk hB; clear hR hB))
  go_ret
  exact ⟨_, rfl, HR.out, HB.out⟩
set_option maxRecDepth 100000 in
set_option maxHeartbeats 1000000 in
theorem extended_bad (h0 : l0.length ≤ 40) (h1 : l1.length ≤ 40) (hl : ¬ l0.length + l1.length ≤ 40) : Calls Tryd.prog 53 #[.slice A0 l0.length c0, .slice A1 l1.length c1] w fun e w' => e = .panicked (failE 2) ∧ Below w.heap.size w w' := by
  have hz : decide ((40 : Int) < (l0.length : Int) + (l1.length : Int)) = true := decide_eq_true (by omega)
  clear hr0 hr1
  go_enter Tryd.func53, Tryd.ntmps53
  go_wp2_with (first | (go_at_call 51; (with_reducible refine (fail_true _ _).mono ?_); rintro e w2 ⟨rfl, rfl⟩))
  exact ⟨rfl, rfl, Below.refl _ _⟩
end
theorem res32 : DoorResults Tryd.f32 4 5 := by
  intro t W g x u h2 h3 c0 c1
  have hu24 := Tryd.underlying24
  have hu25 := Tryd.underlying25
  have e2 : t[4]?.getD undef = .pointer (some ⟨g, 0, none⟩) := by simpa [Array.getD_eq_getD_getElem?] using h2
  have e3 : t[5]?.getD undef = .pointer (some ⟨g + 1, 0, none⟩) := by simpa [Array.getD_eq_getD_getElem?] using h3
  simp [results, Tryd.results32, go_sem, e2, e3, c0, c1]
def extendZ (p l : List S31) : Int := if validL [p, l] = 0 then (if p.length + l.length ≤ 40 then 0 else 2) else validL [p, l]
set_option maxRecDepth 100000 in
set_option maxHeartbeats 1000000 in
theorem extend_bad (A0 : Option Addr) (c0 : Nat) (l0 : List S31) (A1 : Option Addr) (c1 : Nat) (l1 : List S31) (w : World) (hr0 : Kd.C k31 w A0 l0.length l0) (hc0 : l0.length ≤ c0) (hr1 : Kd.C k31 w A1 l1.length l1) (hc1 : l1.length ≤ c1) (z : Int) (hz : validL [l0, l1] = z) (h : ¬ z = 0) :
    Calls Tryd.prog 32 #[.slice A0 l0.length c0, .slice A1 l1.length c1] w (PatsPost w [] z) := by
  have HV := Aside0.mk (valid2_bad (.slice none 0 0) 24 hr0 hc0 hr1 hc1 z hz h)
  clear hz h hr0 hr1
  go_enter_defers Tryd.func32, Tryd.ntmps32
  go_wp2_with (first | (go_at_call 62; (with_reducible refine HV.out.mono ?_); rintro e w1 ⟨rfl, hb1⟩))
  exact door_fails (fn := Tryd.f32) (p := 4) (q := 5) gin49 guardPats_fails res32 (fun w' hb => ⟨_, rfl, Kd.R_nil _ _ _ _ _, hb⟩) (Nat.le_refl _) hb1 rfl rfl rfl
set_option maxRecDepth 100000 in
set_option maxHeartbeats 1000000 in
theorem extend_long (A0 : Option Addr) (c0 : Nat) (l0 : List S31) (A1 : Option Addr) (c1 : Nat) (l1 : List S31) (w : World) (hr0 : Kd.C k31 w A0 l0.length l0) (hc0 : l0.length ≤ c0) (hr1 : Kd.C k31 w A1 l1.length l1) (hc1 : l1.length ≤ c1) (hz : validL [l0, l1] = 0) (hl : ¬ l0.length + l1.length ≤ 40) :
    Calls Tryd.prog 32 #[.slice A0 l0.length c0, .slice A1 l1.length c1] w (PatsPost w [] 2) := by
  have hs0 := checkL_small (validL_two_ok hz).1
  have hs1 := checkL_small (validL_two_ok hz).2
  have HV := Aside0.mk (valid2_ok (.slice none 0 0) 24 hr0 hc0 hr1 hc1 hz)
  have HE := Aside0.mk (fun W (hb : Rd w.heap.size w W (.slice none 0 0) (.int .i64 0)) => (extended_bad (Kd.C_below hr0 hb.1) hc0 (Kd.C_below hr1 hb.1) hc1 hs0 hs1 hl).mono (R' := fun e w' => e = .panicked (failE 2) ∧ Rd w.heap.size w w' (.slice none 0 0) (.int .i64 0)) fun e w' ⟨h1, h2⟩ => ⟨h1, hb.keep h2 (Nat.le_refl _)⟩)
  clear hz hr0 hr1 hs0 hs1 hl
  go_enter_defers Tryd.func32, Tryd.ntmps32
  go_wp2_with (first | (go_at_call 62; (with_reducible refine HV.out.mono ?_); rintro e w1 ⟨rfl, hb1⟩) | (go_at_call 53; (with_reducible refine (HE.out _ hb1).mono ?_); rintro e w2 ⟨rfl, hb2⟩))
  exact door_fails (fn := Tryd.f32) (p := 4) (q := 5) gin49 guardPats_fails res32 (fun w' hb => ⟨_, rfl, Kd.R_nil _ _ _ _ _, hb⟩) (Nat.le_refl _) hb2 rfl rfl rfl
set_option maxRecDepth 100000 in
set_option maxHeartbeats 1000000 in
theorem extend_ok (A0 : Option Addr) (c0 : Nat) (l0 : List S31) (A1 : Option Addr) (c1 : Nat) (l1 : List S31) (w : World) (hr0 : Kd.C k31 w A0 l0.length l0) (hc0 : l0.length ≤ c0) (hr1 : Kd.C k31 w A1 l1.length l1) (hc1 : l1.length ≤ c1) (hz : validL [l0, l1] = 0) (hl : l0.length + l1.length ≤ 40) :
    Calls Tryd.prog 32 #[.slice A0 l0.length c0, .slice A1 l1.length c1] w (PatsPost w (l0 ++ l1) 0) := by
  have HV := Aside0.mk (valid2_ok (.slice none 0 0) 24 hr0 hc0 hr1 hc1 hz)
  have HE := Aside0.mk (fun W (hb : Rd w.heap.size w W (.slice none 0 0) (.int .i64 0)) => (extended_ok (Kd.C_below hr0 hb.1) hc0 (Kd.C_below hr1 hb.1) hc1 hl).mono (R' := fun e w' => ∃ v, e = .returned v ∧ Kd.R k31 31 w' W.heap.size (fun _ => True) v (l0 ++ l1) ∧ w.heap.size + 2 ≤ W.heap.size ∧ Rd w.heap.size w w' (.slice none 0 0) (.int .i64 0))
    fun e w' ⟨v, h1, h2, h3⟩ => ⟨v, h1, h2, by have := World.block_lt_of_cell? W _ hb.2.2.1; simp only [] at this; omega, hb.keep h3 (Nat.le_refl _)⟩)
  have hu24 := Tryd.underlying24
  have hu25 := Tryd.underlying25
  clear hz hr0 hr1 hl
  go_enter_defers Tryd.func32, Tryd.ntmps32
  go_wp2_with (first | (go_at_call 62; (with_reducible refine HV.out.mono ?_); rintro e w1 ⟨rfl, hb1⟩) | (go_at_call 53; (with_reducible refine (HE.out _ hb1).mono ?_); rintro e w2 ⟨v, rfl, hR, hsz, hb3⟩; obtain ⟨A2, c2, rfl, _, _⟩ := hR.2.reads; generalize (l0 ++ l1).length = n2 at hR; have HR := Aside0.mk hR; have HB3 := Aside0.mk hb3; obtain ⟨_, d0, d1, g0, g1⟩ := hb3; clear hR))
  exact door_stored' (fn := Tryd.f32) (p := 4) (q := 5) gin49 guardPats_idle res32 HB3.out (fun hb => ⟨_, rfl, R_stored HR.out hsz, hb⟩) rfl rfl rfl
def pattern_Extend.f (p l : List S31) : Option (List S31 × Int) := if validL [p, l] = 0 then (if p.length + l.length ≤ 40 then some (p ++ l, 0) else some ([], 2)) else some ([], validL [p, l])
theorem pattern_Extend.calls (A0 : Option Addr) (c0 : Nat) (l0 : List S31) (A1 : Option Addr) (c1 : Nat) (l1 : List S31) (r1 : List S31) (r2 : Int) (w : World) (hr0 : Kd.C k31 w A0 l0.length l0) (hc0 : l0.length ≤ c0) (hr1 : Kd.C k31 w A1 l1.length l1) (hc1 : l1.length ≤ c1) (h : pattern_Extend.f l0 l1 = some (r1, r2)) :
    Calls Tryd.prog 32 #[.slice A0 l0.length c0, .slice A1 l1.length c1] w fun e w' => ∃ v0_ : Value, e = .returned (.tuple #[v0_, .int .i64 r2]) ∧ Kd.R k31 31 w' w.heap.size (fun _ => True) v0_ r1 ∧ Below w.heap.size w w' := by
  unfold pattern_Extend.f at h
  by_cases hz : validL [l0, l1] = 0
  · rw [if_pos hz] at h
    by_cases hl : l0.length + l1.length ≤ 40
    · rw [if_pos hl] at h
      cases h
      exact extend_ok A0 c0 l0 A1 c1 l1 w hr0 hc0 hr1 hc1 hz hl
    · rw [if_neg hl] at h
      cases h
      exact extend_long A0 c0 l0 A1 c1 l1 w hr0 hc0 hr1 hc1 hz hl
  · rw [if_neg hz] at h
    cases h
    exact extend_bad A0 c0 l0 A1 c1 l1 w hr0 hc0 hr1 hc1 _ rfl hz
end Go.Proofs.YtgkebfeggekkgaaDoor.Given
