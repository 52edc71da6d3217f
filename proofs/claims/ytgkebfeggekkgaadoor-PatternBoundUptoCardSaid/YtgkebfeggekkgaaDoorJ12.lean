/- PatternBinds, walked: it answers true. -/
import Derived.Test.YtgkebfeggekkgaaDoorNb
import Derived.Test.YtgkebfeggekkgaaDoorJ11
section
set_option linter.unusedVariables false
set_option linter.unusedSimpArgs false
namespace Go.Proofs.YtgkebfeggekkgaaDoor.Given
open Go.RowKit Go.Proofs.YtgkebfeggekkgaaDoor.PT Go.Proofs.YtgkebfeggekkgaaDoorW.PrintWords Go.Proofs.YtgkebfeggekkgaaDoorW.PrintLast Go.Proofs.YtgkebfeggekkgaaDoorW.PrintMore

theorem step_err : ∀ (r : List S34) (o : List S31) (fin : Bool) (n : Int), (stepL o fin n r).1 = 0 ∨ (stepL o fin n r).2.1 = []
  | [], o, fin, n => by
    rw [stepL]
    exact .inl rfl
  | b :: r, o, fin, n => by
    rw [stepL]
    split
    · exact .inl rfl
    · split
      · exact .inr rfl
      · split
        · split
          · exact step_err r _ _ _
          · exact .inr rfl
        · split
          · exact step_err r _ _ _
          · exact .inr rfl
theorem fur_len {l : List S34} {at' : Int} {p : List S31} {n z : Int} (h : pattern_Furthest.f l at' = some (p, n, z)) : z = 0 ∨ p = [] := by
  unfold pattern_Furthest.f at h
  by_cases hz : bindL (-1) l = 0
  · rw [if_pos hz] at h
    by_cases hf : firstL at' l 0 (-1) < 0
    · rw [if_pos hf] at h
      simp only [Option.some.injEq, Prod.mk.injEq] at h
      exact .inr h.1.symm
    · rw [if_neg hf] at h
      cases hd : l.drop (firstL at' l 0 (-1)).toNat with
      | nil => rw [hd] at h; cases h
      | cons b r =>
        rw [hd] at h
        simp only [Option.some.injEq, Prod.mk.injEq] at h
        obtain ⟨rfl, rfl, rfl⟩ := h
        exact step_err r _ _ _
  · rw [if_neg hz] at h
    simp only [Option.some.injEq, Prod.mk.injEq] at h
    exact .inr h.1.symm
theorem fur_small {l : List S34} {at' : Int} {p : List S31} {n z : Int} (h : pattern_Furthest.f l at' = some (p, n, z)) : p.length ≤ 40 := by
  rcases fur_len h with rfl | rfl
  · exact bound_len h
  · simp
set_option maxRecDepth 100000 in
set_option maxHeartbeats 1000000 in
theorem binds_true (A : Option Addr) (c : Nat) (ls : List S34) (at' : Int) (w : World) (hG : LaidG w) (hr : Kd.C k34 w A ls.length ls) (hc : ls.length ≤ c) (hl : ls.length ≤ 1048576) :
    Calls Tryd.prog 3 #[.slice A ls.length c, .int .i64 at'] w fun e w' => e = .returned (.bool true) ∧ Below w.heap.size w w' := by
  obtain ⟨⟨p, n, z⟩, hp⟩ : ∃ r, pattern_Furthest.f ls at' = some r := Option.ne_none_iff_exists'.1 (fur_some ls at')
  have HA : Aside0 (Calls Tryd.prog 19 #[] w fun e w' => e = .returned (.bool true) ∧ Below w.heap.size w w') := ⟨mjolnerlaw09_awake.calls true w hG rfl⟩
  have H20 := Aside0.mk (fun W (hW : Below w.heap.size w W) => fur_got A c ls at' W (Kd.C_below hr hW) hc p n z hp)
  have H21 := Aside0.mk (fun W (hW : Below w.heap.size w W) => refFur_got A c ls at' W (Kd.C_below hr hW) hc hl p n z hp)
  have HL := Aside0.mk (fur_small hp)
  clear hr hG hp
  go_enter Tryd.func3, Tryd.ntmps3
  go_wp2_with (first
    | (go_at_call 19; (with_reducible refine HA.out.mono ?_); rintro e w1 ⟨rfl, hb1⟩; have HB1 := Aside0.mk hb1; clear hb1)
    | (go_at_call 20; (with_reducible refine (H20.out _ HB1.out).mono ?_); rintro e w2 ⟨B2, d2, rfl, hd2, hC2, hb⟩; have HB2 := Aside0.mk (HB1.out.trans (hb.mono HB1.out.size)); have HC2 := Aside0.mk hC2; have HD2 := Aside0.mk hd2; clear hb hC2 hd2)
    | (go_at_call 21; (with_reducible refine (H21.out _ HB2.out).mono ?_); rintro e w3 ⟨B3, d3, rfl, hd3, hC3, hb⟩; have HB3 := Aside0.mk (HB2.out.trans (hb.mono HB2.out.size)); have HS3 := Aside0.mk (same_calls B2 d2 B3 d3 p.length p w3 (by have := HL.out; omega) rfl (Kd.C_below HC2.out hb) HD2.out hC3 hd3); clear hb hC3 hd3)
    | (go_at_call 22; (with_reducible refine HS3.out.mono ?_); rintro e w4 ⟨rfl, hb⟩; have HB4 := Aside0.mk (HB3.out.trans (hb.mono HB3.out.size)); clear hb))
  go_ret
  exact ⟨rfl, HB4.out⟩
def mjolnerlaw09_PatternBinds.f (k : Nat) (ls : List S34) (at' : Int) : Option Bool := if ls.length ≤ 1048576 then some true else none
theorem mjolnerlaw09_PatternBinds.calls (k : Nat) (A0 : Option Addr) (c0 : Nat) (l0 : List S34) (a1 : Int) (r : Bool) (w : World) (hG : LaidG w) (hr0 : Kd.C k34 w A0 l0.length l0) (hc0 : l0.length ≤ c0) (h : mjolnerlaw09_PatternBinds.f k l0 a1 = some r) :
    Calls Tryd.prog 3 #[.slice A0 l0.length c0, .int .i64 a1] w fun e w' => e = .returned (.bool r) ∧ Below w.heap.size w w' := by
  unfold mjolnerlaw09_PatternBinds.f at h
  split at h
  · rename_i hs
    obtain rfl : true = r := Option.some.inj h
    exact binds_true A0 c0 l0 a1 w hG hr0 hc0 hs
  · cases h
theorem PatternBinds_law (ls : List S34) (a : Int) (hl : ls.length ≤ 1048576) (_ : ∀ b ∈ ls, b.f3.all inI3 = true ∧ inI b.f0 = true ∧ inI b.f1 = true ∧ b.f3.length ≤ 1048576) : ∃ k, mjolnerlaw09_PatternBinds.f k ls a = some true := ⟨0, if_pos hl⟩
end Go.Proofs.YtgkebfeggekkgaaDoor.Given
end
section
/- Rows of bindings as rows of heads (as they lie), that may be appended whoever owns what the slices show; a pattern of one part, new. -/
set_option linter.unusedVariables false
set_option linter.unusedSimpArgs false
namespace Go.Proofs.YtgkebfeggekkgaaDoor.Given
open Go.RowKit Go.Proofs.YtgkebfeggekkgaaDoor.PT Go.Proofs.YtgkebfeggekkgaaDoorW.PrintWords Go.Proofs.YtgkebfeggekkgaaDoorW.PrintLast Go.Proofs.YtgkebfeggekkgaaDoorW.PrintMore

/-- a binding as it lies -/
structure BHead where
  pos : Int
  kind : Int
  own : Bool
  at' : Option Addr
  len : Nat
  cap : Nat
def BHead.cells (x : BHead) : List Value := [.int .i64 x.pos, .int .i64 x.kind, .bool x.own, .slice x.at' x.len x.cap]
def kB : Kd BHead := Kd.iso (Kd.pair (Kd.int .i64) (Kd.pair (Kd.int .i64) (Kd.pair Kd.bool (Kd.scalar (fun h : Option Addr × Nat × Nat => Value.slice h.1 h.2.1 h.2.2) (fun _ => rfl))))) (fun x => (x.pos, x.kind, x.own, x.at', x.len, x.cap))
theorem kB_K {w : World} {x : BHead} {cs : List Value} : kB.K w x cs ↔ cs = x.cells := by
  constructor
  · rintro ⟨c0, c1, rfl, h0, c2, c3, rfl, h2, c4, c5, rfl, h4, h5⟩
    have h0 : c0 = [Value.int .i64 x.pos] := h0
    have h2 : c2 = [Value.int .i64 x.kind] := h2
    have h4 : c4 = [Value.bool x.own] := h4
    have h5 : c5 = [Value.slice x.at' x.len x.cap] := h5
    rw [h0, h2, h4, h5]
    rfl
  · rintro rfl
    exact ⟨[_], [_, _, _], rfl, rfl, [_], [_, _], rfl, rfl, [_], [_], rfl, rfl, rfl⟩
theorem kB_M {w : World} {base : Nat} {ok : Nat → Prop} (x : BHead) : kB.M w base ok x x.cells := ⟨[_], [_, _, _], rfl, rfl, [_], [_, _], rfl, rfl, [_], [_], rfl, rfl, rfl⟩
/-- a head that shows a binding -/
def BFit (W : World) (h : BHead) (x : S34) : Prop := h.pos = x.f0 ∧ h.kind = x.f1 ∧ h.own = x.f2 ∧ h.len = x.f3.length ∧ h.len ≤ h.cap ∧ Kd.C k31 W h.at' x.f3.length x.f3
theorem BFit.keep {W W' : World} {h : BHead} {x : S34} (hf : BFit W h x) (hb : Below W.heap.size W W') : BFit W' h x := ⟨hf.1, hf.2.1, hf.2.2.1, hf.2.2.2.1, hf.2.2.2.2.1, Kd.C_below hf.2.2.2.2.2 hb⟩
inductive BFits (W : World) : List BHead → List S34 → Prop
  | nil : BFits W [] []
  | cons {h x hs xs} : BFit W h x → BFits W hs xs → BFits W (h :: hs) (x :: xs)
theorem BFits.keep {W W' : World} (hb : Below W.heap.size W W') : ∀ {hs xs}, BFits W hs xs → BFits W' hs xs
  | _, _, .nil => .nil
  | _, _, .cons h r => .cons (h.keep hb) (r.keep hb)
theorem BFits.len {W : World} : ∀ {hs xs}, BFits W hs xs → hs.length = xs.length
  | _, _, .nil => rfl
  | _, _, .cons h r => by simp [r.len]
theorem BFits.app {W : World} : ∀ {hs xs gs ys}, BFits W hs xs → BFits W gs ys → BFits W (hs ++ gs) (xs ++ ys)
  | _, _, _, _, .nil, h => h
  | _, _, _, _, .cons h r, h2 => .cons h (r.app h2)
theorem BFits.at {W : World} : ∀ {hs xs}, BFits W hs xs → ∀ (i : Nat) (h : i < hs.length) (h' : i < xs.length), BFit W hs[i] xs[i]
  | _, _, .cons h r, 0, _, _ => h
  | _, _, .cons h r, i + 1, h1, h2 => r.at i _ _
theorem bheads_of {W : World} : ∀ (xs : List S34) (P : Nat → BHead → Prop), (∀ (j : Nat) (x : S34), xs[j]? = some x → ∃ h, BFit W h x ∧ P j h) → ∃ hs, BFits W hs xs ∧ ∀ (j : Nat) (h : BHead), hs[j]? = some h → P j h
  | [], P, _ => ⟨[], .nil, fun j h hh => by simp at hh⟩
  | x :: xs, P, H => by
    obtain ⟨h, hf, hp⟩ := H 0 x rfl
    obtain ⟨hs, hfs, hps⟩ := bheads_of xs (fun j => P (j + 1)) (fun j y hy => H (j + 1) y (by simpa using hy))
    refine ⟨h :: hs, .cons hf hfs, fun j g hg => ?_⟩
    rcases j with _ | j
    · obtain rfl : h = g := by simpa using hg
      exact hp
    · exact hps j g (by simpa using hg)
theorem B_split {W : World} {A : Option Addr} {n : Nat} {xs : List S34} (hC : Kd.C k34 W A n xs) : ∃ hs, Kd.C kB W A n hs ∧ BFits W hs xs := by
  obtain ⟨h1, h2, h3⟩ := hC
  by_cases hn : 0 < n
  · obtain ⟨ad, e, hc⟩ := h3 hn
    obtain ⟨hs, hf, hp⟩ := bheads_of (W := W) xs (fun j h => ∀ (i : Nat) (u : Value), h.cells[i]? = some u → W.cell? (ad.add (j * 4 + i)) = some u) (fun j x hx => by
      obtain ⟨c, hl, hk, hx⟩ := hc j x hx
      obtain ⟨A3, c3, rfl, hd, hC⟩ := k34_open hk
      exact ⟨⟨x.f0, x.f1, x.f2, A3, x.f3.length, c3⟩, ⟨rfl, rfl, rfl, rfl, hd, hC⟩, fun i u hu => hx i u hu⟩)
    exact ⟨hs, ⟨hf.len.trans h1, h2, fun _ => ⟨ad, e, fun j h hj => ⟨_, rfl, kB_K.2 rfl, hp j h hj⟩⟩⟩, hf⟩
  · have : xs = [] := List.length_eq_zero_iff.1 (by omega)
    subst this
    exact ⟨[], ⟨h1, h2, fun h => absurd h hn⟩, .nil⟩
theorem B_join {W : World} {A : Option Addr} {n : Nat} {hs : List BHead} {xs : List S34} (hC : Kd.C kB W A n hs) (hf : BFits W hs xs) : Kd.C k34 W A n xs := by
  obtain ⟨h1, h2, h3⟩ := hC
  refine ⟨hf.len.symm.trans h1, h2, fun hn => ?_⟩
  obtain ⟨ad, e, hc⟩ := h3 hn
  refine ⟨ad, e, fun j x hj => ?_⟩
  have hjl : j < xs.length := by
    rw [List.getElem?_eq_some_iff] at hj
    exact hj.1
  have hjx : xs[j] = x := by
    rw [List.getElem?_eq_some_iff] at hj
    exact hj.2
  have hjh : j < hs.length := by rw [hf.len]; exact hjl
  obtain ⟨c, hl, hk, hx⟩ := hc j hs[j] (List.getElem?_eq_getElem hjh)
  obtain rfl := kB_K.1 hk
  obtain ⟨e0, e1, e2, e3, e4, e5⟩ := hf.at j hjh hjl
  rw [hjx] at e0 e1 e2 e3 e5
  refine ⟨_, hl, ?_, hx⟩
  unfold BHead.cells
  rw [e0, e1, e2, e3]
  rw [e3] at e4
  exact k34_mk W x e4 e5
theorem info34 : (Tryd.prog.info? 34).map (fun i => (i.zero, i.size, i.bytes)) = some (some (.agg #[.int .i64 0, .int .i64 0, .bool false, .slice none 0 0]), 4, 48) := by kernel_rfl
/-- a pattern of one part, in a block of its own -/
theorem C_one {W W' : World} {g : Nat} {x : S31} (hg : W.heap.size = g) (hb : Below (g + 1) (W.alloc (.cells #[.int .i64 x.f0, .int .i64 x.f1, .int .i64 x.f2] 31)) W') : Kd.C k31 W' (some ⟨g, 0, none⟩) [x].length [x] := by
  subst hg
  refine ⟨rfl, by simp, fun _ => ⟨_, rfl, fun j y hj => ?_⟩⟩
  rcases j with _ | j
  · obtain rfl : x = y := by simpa using hj
    refine ⟨[.int .i64 x.f0, .int .i64 x.f1, .int .i64 x.f2], rfl, ?_, fun i v hv => ?_⟩
    · exact k31_mk W' x
    · rcases i with _ | _ | _ | i
      · obtain rfl : Value.int .i64 x.f0 = v := by simpa using hv
        refine (show W'.cell? _ = W'.cell? ⟨W.heap.size, 0, none⟩ from rfl).trans ((bcell hb (Nat.lt_succ_self _)).trans ?_)
        simp [go_sem]
      · obtain rfl : Value.int .i64 x.f1 = v := by simpa using hv
        refine (show W'.cell? _ = W'.cell? ⟨W.heap.size, 1, none⟩ from rfl).trans ((bcell hb (Nat.lt_succ_self _)).trans ?_)
        simp [go_sem]
      · obtain rfl : Value.int .i64 x.f2 = v := by simpa using hv
        refine (show W'.cell? _ = W'.cell? ⟨W.heap.size, 2, none⟩ from rfl).trans ((bcell hb (Nat.lt_succ_self _)).trans ?_)
        simp [go_sem]
      · simp at hv
  · simp at hj
end Go.Proofs.YtgkebfeggekkgaaDoor.Given
end
section
/- PatternBound, walked: where the law asks nothing. -/
set_option linter.unusedVariables false
set_option linter.unusedSimpArgs false
set_option linter.unusedSectionVars false
namespace Go.Proofs.YtgkebfeggekkgaaDoor.Given
open Go.RowKit Go.Proofs.YtgkebfeggekkgaaDoor.PT Go.Proofs.YtgkebfeggekkgaaDoorW.PrintWords Go.Proofs.YtgkebfeggekkgaaDoorW.PrintLast Go.Proofs.YtgkebfeggekkgaaDoorW.PrintMore

/-- the world with the new part's block in it -/
def wX (w : World) (x : S31) : World := w.alloc (.cells #[.int .i64 x.f0, .int .i64 x.f1, .int .i64 x.f2] 31)
theorem wX_size (w : World) (x : S31) : (wX w x).heap.size = w.heap.size + 1 := by simp [wX]
theorem wX_below (w : World) (x : S31) : Below w.heap.size w (wX w x) := (Below.refl _ _).alloc (Nat.le_refl _) _
theorem wX_in {w : World} {x : S31} {W : World} (hW : Below (w.heap.size + 1) (wX w x) W) : Below w.heap.size w W ∧ w.heap.size + 1 ≤ W.heap.size ∧ W.cell? ⟨w.heap.size, 0, none⟩ = some (.int .i64 x.f0) ∧ W.cell? ⟨w.heap.size, 1, none⟩ = some (.int .i64 x.f1) ∧ W.cell? ⟨w.heap.size, 2, none⟩ = some (.int .i64 x.f2) := by
  have hz := hW.size
  rw [wX_size] at hz
  refine ⟨(wX_below w x).trans (hW.mono (by omega)), hz, (bcell hW (by omega)).trans ?_, (bcell hW (by omega)).trans ?_, (bcell hW (by omega)).trans ?_⟩
  all_goals simp [wX, go_sem]
section
variable (A : Option Addr) (c : Nat) (ls : List S34) (at' : Int) (x : S31) (gap : Int) (w : World) (hG : LaidG w) (hr : Kd.C k34 w A ls.length ls) (hc : ls.length ≤ c)
include hG hr hc
theorem bd_awake : Calls Tryd.prog 19 #[] (w.alloc (.cells #[.int .i64 x.f0, .int .i64 x.f1, .int .i64 x.f2] 31)) fun e w' => e = .returned (.bool true) ∧ Below (w.heap.size + 1) (wX w x) w' :=
  (mjolnerlaw09_awake.calls true _ (hG.keep _ (wX_below w x)) rfl).mono fun e w' ⟨h1, h2⟩ => ⟨h1, h2.mono (Nat.le_of_eq (wX_size w x).symm)⟩
set_option maxRecDepth 100000 in
set_option maxHeartbeats 4000000 in
theorem bd_err (p : List S31) (n z : Int) (hp : pattern_Furthest.f ls at' = some (p, n, z)) (h0 : ¬ z = 0) :
    Calls Tryd.prog 4 #[.slice A ls.length c, .int .i64 at', .agg #[.int .i64 x.f0, .int .i64 x.f1, .int .i64 x.f2], .int .i64 gap] w fun e w' => e = .returned (.bool true) ∧ Below w.heap.size w w' := by
  have hu31 := Tryd.underlying31
  have HA := Aside0.mk (bd_awake A c ls x w hG hr hc)
  have HBX := Aside0.mk (fun W => wX_in (w := w) (x := x) (W := W))
  have H20 := Aside0.mk (fun W (hW : Below w.heap.size w W) => fur_got A c ls at' W (Kd.C_below hr hW) hc p n z hp)
  have k1 : (z != 0) = true := bne_iff_ne.2 h0
  clear hG hr h0 hp
  go_enter Tryd.func4, Tryd.ntmps4
  go_wp2_with (first
    | (go_at_call 19; (with_reducible refine HA.out.mono ?_); rintro e w1 ⟨rfl, hb1⟩; have HB1 := Aside0.mk hb1; clear hb1)
    | (go_at_call 20; (with_reducible refine (H20.out _ (HBX.out _ HB1.out).1).mono ?_); rintro e w2 ⟨B2, d2, rfl, hd2, hC2, hb⟩; have HB2 := Aside0.mk (HB1.out.trans (hb.mono (HBX.out _ HB1.out).2.1)); clear hb hC2 hd2))
  go_ret
  exact ⟨rfl, (HBX.out _ HB2.out).1⟩
theorem bd_check (W : World) (hW : Below (w.heap.size + 1) (wX w x) W) : Calls Tryd.prog 23 #[.slice (some ⟨W.heap.size, 0, none⟩) 1 1] (W.alloc (.cells #[.int .i64 x.f0, .int .i64 x.f1, .int .i64 x.f2] 31)) fun e w' => e = .returned (.int .i64 (checkL [x])) ∧ Below (w.heap.size + 1) (wX w x) w' := by
  have hz := hW.size
  rw [wX_size] at hz
  refine (check_calls (some ⟨W.heap.size, 0, none⟩) 1 [x] _ (C_one rfl ?_) (Nat.le_refl _)).mono fun e w' ⟨h1, h2⟩ => ⟨h1, (hW.alloc hz _).trans (h2.mono ?_)⟩
  · exact Below.refl _ _
  · simp; omega
set_option maxRecDepth 100000 in
set_option maxHeartbeats 4000000 in
theorem bd_early (N : Nat) (hN : ls.length = N + 1) (hl : ls.length ≤ 1048576) (p : List S31) (n : Int) (hp : pattern_Furthest.f ls at' = some (p, n, 0)) (b : S34) (hb : rd_T34 ls (N : Int) = b)
    (hne : ¬ (1 ≤ gap ∧ gap ≤ 1000 ∧ checkL [x] = 0 ∧ b.f0 ≤ 1152921504606846976 ∧ at' ≤ b.f0)) :
    Calls Tryd.prog 4 #[.slice A (N + 1) c, .int .i64 at', .agg #[.int .i64 x.f0, .int .i64 x.f1, .int .i64 x.f2], .int .i64 gap] w fun e w' => e = .returned (.bool true) ∧ Below w.heap.size w w' := by
  have hu31 := Tryd.underlying31
  have hu34 := Tryd.underlying34
  have HA := Aside0.mk (bd_awake A c ls x w hG hr hc)
  have HBX := Aside0.mk (fun W => wX_in (w := w) (x := x) (W := W))
  have H23 := Aside0.mk (bd_check A c ls x w hG hr hc)
  have H20 := Aside0.mk (fun W (hW : Below w.heap.size w W) => fur_got A c ls at' W (Kd.C_below hr hW) hc p n 0 hp)
  rw [hN] at H20 hr
  have HR := Aside0.mk hr
  have HB0 := Aside0.mk hb
  have n0 : ¬ (N : Int) + 1 ≤ (N : Int) := by omega
  have n1 : 0 ≤ (N : Int) := by omega
  have n2 : (N : Int) < ((N + 1 : Nat) : Int) := by omega
  have n3 : N < N + 1 := by omega
  have n4 : ¬ N + 1 ≤ N := by omega
  have l0 : (((N + 1 : Nat) : Int) == 0) = false := by rw [beq_eq_false_iff_ne]; omega
  have l1 : ((N : Int) + 1 == 0) = false := by rw [beq_eq_false_iff_ne]; omega
  have l2 : ((N + 1 : Nat) == 0) = false := by rw [beq_eq_false_iff_ne]; omega
  have hb5 : -9223372036854775808 ≤ (N : Int) ∧ (N : Int) ≤ 9223372036854775807 := by omega
  have hcs : (decide (gap < 1) = true) ∨ (decide (gap < 1) = false ∧ decide (1000 < gap) = true) ∨ (decide (gap < 1) = false ∧ decide (1000 < gap) = false ∧ (checkL [x] != 0) = true) ∨
      (decide (gap < 1) = false ∧ decide (1000 < gap) = false ∧ checkL [x] = 0 ∧ (decide (1152921504606846976 < b.f0) = true ∨ (decide (1152921504606846976 < b.f0) = false ∧ decide (b.f0 < at') = true))) := by
    simp only [decide_eq_true_eq, decide_eq_false_iff_not, bne_iff_ne]
    by_cases hz : checkL [x] = 0
    · simp only [hz] at hne ⊢
      simp only [ne_eq, not_true_eq_false, and_false, false_or, true_and] at hne ⊢
      omega
    · simp only [ne_eq, hz, not_false_eq_true, and_true, false_and, and_false, or_false]
      omega
  have kw0 : IntKind.i64.wrap (N : Int) = (N : Int) := IntWalk.i64_in _ hb5
  clear hG hr hp hne hb hb5 hN
  go_enter Tryd.func4, Tryd.ntmps4
  go_upto_region 3 with (first
    | (go_at_call 19; (with_reducible refine HA.out.mono ?_); rintro e w1 ⟨rfl, hb1⟩; have HB1 := Aside0.mk hb1; clear hb1)
    | (go_at_call 20; (with_reducible refine (H20.out _ (HBX.out _ HB1.out).1).mono ?_); rintro e w2 ⟨B2, d2, rfl, hd2, hC2, hb⟩; have HB2 := Aside0.mk (HB1.out.trans (hb.mono (HBX.out _ HB1.out).2.1)); obtain ⟨_, _, x0, x1, x2⟩ := HBX.out _ HB2.out; clear hb hC2 hd2))
  rcases hcs with g0 | ⟨g0, g1⟩ | ⟨g0, g1, g2⟩ | ⟨g0, g1, g2, g3⟩
  · go_wp2_with (fail)
    go_ret
    exact ⟨rfl, (HBX.out _ HB2.out).1⟩
  · go_wp2_with (fail)
    go_ret
    exact ⟨rfl, (HBX.out _ HB2.out).1⟩
  · generalize checkL [x] = z at H23 g2
    go_wp2_with (first
      | (go_at_call 23; (with_reducible refine (H23.out _ HB2.out).mono ?_); rintro e w3 ⟨rfl, hb3⟩; have HB3 := Aside0.mk hb3; clear hb3))
    go_ret
    exact ⟨rfl, (HBX.out _ HB3.out).1⟩
  · rw [g2] at H23
    clear g2
    go_upto_region 5 with (first
      | (go_at_call 23; (with_reducible refine (H23.out _ HB2.out).mono ?_); rintro e w3 ⟨rfl, hb3⟩; have HB3 := Aside0.mk hb3; clear hb3))
    obtain ⟨ad, A5, c5, rfl, hx0, hx1, hx2, hx3, hc5, hg5⟩ := at_T34 (Kd.C_below HR.out (HBX.out _ HB3.out).1) (N : Int) n1 n2
    rw [Int.toNat_natCast] at hx0 hx1 hx2 hx3
    rw [HB0.out] at hx0 hx1 hx2 hx3
    clear hg5 hc5 x0 x1 x2
    rcases g3 with g3 | ⟨g3, g4⟩
    · go_wp2_with (fail)
      go_ret
      exact ⟨rfl, (HBX.out _ HB3.out).1⟩
    · go_wp2_with (fail)
      go_ret
      exact ⟨rfl, (HBX.out _ HB3.out).1⟩
end
end Go.Proofs.YtgkebfeggekkgaaDoor.Given
end
