/- PatternBound: the law. -/
import Derived.Test.YtgkebfeggekkgaaDoorOc
set_option linter.unusedVariables false
set_option linter.unusedSimpArgs false
namespace Go.Proofs.YtgkebfeggekkgaaDoor.Given
open Go.RowKit Go.Proofs.YtgkebfeggekkgaaDoor.PT Go.Proofs.YtgkebfeggekkgaaDoorW.PrintWords Go.Proofs.YtgkebfeggekkgaaDoorW.PrintLast Go.Proofs.YtgkebfeggekkgaaDoorW.PrintMore

theorem bound_true (A : Option Addr) (c : Nat) (ls : List S34) (at' : Int) (x : S31) (gap : Int) (w : World) (hG : LaidG w) (hr : Kd.C k34 w A ls.length ls) (hc : ls.length ≤ c) (hl : ls.length ≤ 1048576) :
    Calls Tryd.prog 4 #[.slice A ls.length c, .int .i64 at', .agg #[.int .i64 x.f0, .int .i64 x.f1, .int .i64 x.f2], .int .i64 gap] w fun e w' => e = .returned (.bool true) ∧ Below w.heap.size w w' := by
  obtain ⟨⟨p, n, z⟩, hp⟩ : ∃ r, pattern_Furthest.f ls at' = some r := Option.ne_none_iff_exists'.1 (fur_some ls at')
  by_cases h0 : z = 0
  · subst h0
    obtain ⟨hz, F, b, r, hf, hd, hs⟩ := fur_ok hp
    obtain ⟨N, hN⟩ : ∃ N, ls.length = N + 1 := ⟨ls.length - 1, by
      have := congrArg List.length hd
      rw [List.length_drop, List.length_cons] at this
      omega⟩
    by_cases hm : 1 ≤ gap ∧ gap ≤ 1000 ∧ checkL [x] = 0 ∧ (rd_T34 ls (N : Int)).f0 ≤ 1152921504606846976 ∧ at' ≤ (rd_T34 ls (N : Int)).f0
    · have h := bd_main A c ls at' x gap w hG hr hc N hN hl p n hp _ rfl hm.1 hm.2.1 hm.2.2.1 hm.2.2.2.1 hm.2.2.2.2
      rw [hN]
      exact h
    · have h := bd_early A c ls at' x gap w hG hr hc N hN hl p n hp _ rfl hm
      rw [hN]
      exact h
  · exact bd_err A c ls at' x gap w hG hr hc p n z hp h0
def mjolnerlaw09_PatternBound.f (k : Nat) (ls : List S34) (at' : Int) (x : S31) (gap : Int) : Option Bool := if ls.length ≤ 1048576 then some true else none
theorem mjolnerlaw09_PatternBound.calls (k : Nat) (A0 : Option Addr) (c0 : Nat) (l0 : List S34) (a1 : Int) (x : S31) (a3 : Int) (r : Bool) (w : World) (hG : LaidG w) (hr0 : Kd.C k34 w A0 l0.length l0) (hc0 : l0.length ≤ c0) (h : mjolnerlaw09_PatternBound.f k l0 a1 x a3 = some r) :
    Calls Tryd.prog 4 #[.slice A0 l0.length c0, .int .i64 a1, .agg #[.int .i64 x.f0, .int .i64 x.f1, .int .i64 x.f2], .int .i64 a3] w fun e w' => e = .returned (.bool r) ∧ Below w.heap.size w w' := by
  unfold mjolnerlaw09_PatternBound.f at h
  split at h
  · rename_i hs
    obtain rfl : true = r := Option.some.inj h
    exact bound_true A0 c0 l0 a1 x a3 w hG hr0 hc0 hs
  · cases h
theorem PatternBound_law (ls : List S34) (a : Int) (x : S31) (g : Int) (hl : ls.length ≤ 1048576) (_ : ∀ b ∈ ls, b.f3.all inI3 = true ∧ inI b.f0 = true ∧ inI b.f1 = true ∧ b.f3.length ≤ 1048576) (_ : inI3 x = true) : ∃ k, mjolnerlaw09_PatternBound.f k ls a x g = some true := ⟨0, if_pos hl⟩
end Go.Proofs.YtgkebfeggekkgaaDoor.Given
