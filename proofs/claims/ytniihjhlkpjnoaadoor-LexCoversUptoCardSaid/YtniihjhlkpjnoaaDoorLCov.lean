/- LexCovers: the plain law. -/
import Derived.Test.YtniihjhlkpjnoaaDoorPVx12
import Derived.Test.YtniihjhlkpjnoaaDoorJ14
import Derived.Test.YtniihjhlkpjnoaaDoorLVal
import Derived.Test.YtniihjhlkpjnoaaDoorLSan
set_option linter.unusedVariables false
set_option linter.unusedSimpArgs false
namespace Go.Proofs.YtniihjhlkpjnoaaDoor.Given
open Go.RowKit Go.Proofs.YtniihjhlkpjnoaaDoorW.PrintWords Go.Proofs.YtniihjhlkpjnoaaDoorW.PrintLast Go.Proofs.YtniihjhlkpjnoaaDoorW.PrintMore
theorem covers_item (s : ByteArray) (hs : s.size ≤ 1048576) (L : List PV.S40) (M : List PV.S42) (hL : L.length ≤ 10000000) (hM : M.length ≤ 10000000) (x : Nat × Itm) (R : List PV.S40) (T : List PV.S42) (i j : Nat) (g : Bool) (k : Nat)
  (hi : L.drop i = spanS (if x.2.kind = 0 then 2 else 3, x.1, x.1 + x.2.len) :: R) (hj : M.drop j = (if x.2.kind = 0 then [] else [tokS 0 x]) ++ T) (h1 : 1 ≤ x.2.len) (h2 : x.1 + x.2.len ≤ s.size)
  (hv : x.2.kind ≠ 0 → validB (tokS 0 x) = true ∧ (tokS 0 x).f1.size ≤ 4611686018427387904) :
  ∃ j' : Nat, M.drop j' = T ∧ j' = j + (if x.2.kind = 0 then 0 else 1) ∧ PV.mjolnerlaw04_LexCovers.l0 (k + 2) s true L M (x.1 : Int) (j : Int) g (i : Int) = PV.mjolnerlaw04_LexCovers.l0 k s true L M ((x.1 + x.2.len : Nat) : Int) (j' : Int) false ((i + 1 : Nat) : Int) := by
 obtain ⟨hx, hil, _⟩ := rd40_at hi
 have hstep : PV.mjolnerlaw04_LexCovers.l0 (k + 2) s true L M (x.1 : Int) (j : Int) g (i : Int) = PV.mjolnerlaw04_LexCovers.j2 (k + 1) s true L M (j : Int) (i : Int) false (if x.2.kind = 0 then 2 else 3) (x.1 : Int) ((x.1 + x.2.len : Nat) : Int) := by
  rw [PV.mjolnerlaw04_LexCovers.l0, if_pos (by omega), if_pos (by omega), hx]
  rw [show (spanS (if x.2.kind = 0 then 2 else 3, x.1, x.1 + x.2.len)).f0 = (if x.2.kind = 0 then 2 else 3) from rfl, show (spanS (if x.2.kind = 0 then 2 else 3, x.1, x.1 + x.2.len)).f1 = (x.1 : Int) from rfl, show (spanS (if x.2.kind = 0 then 2 else 3, x.1, x.1 + x.2.len)).f2 = ((x.1 + x.2.len : Nat) : Int) from rfl]
  rw [if_pos rfl, if_neg (by omega), if_neg (by omega)]
  have hg : ((if x.2.kind = 0 then (2 : Int) else 3) == 1) = false := by split <;> decide
  cases g with
  | true => rw [if_pos rfl, hg]
  | false => rw [if_neg (by decide)]
 rw [hstep, PV.mjolnerlaw04_LexCovers.j2, if_neg (show ¬ (false = true) by decide)]
 have hg : ((if x.2.kind = 0 then (2 : Int) else 3) == 1) = false := by split <;> decide
 rw [hg, w64b (a := (i : Int) + 1) (by omega) (by omega)]
 by_cases hk : x.2.kind = 0
 ·rw [if_pos hk] at hj
  refine ⟨j, hj, (by rw [if_pos hk, Nat.add_zero]), ?_⟩
  rw [if_pos hk, if_neg (show ¬ (2 : Int) = 3 by decide)]
  rfl
 ·rw [if_neg hk] at hj
  obtain ⟨hy, hjl, hj2⟩ := rd42_at hj
  obtain ⟨v1, v2⟩ := hv hk
  refine ⟨j + 1, hj2, by rw [if_neg hk], ?_⟩
  rw [if_neg hk, if_pos rfl, if_neg (by omega), if_pos (by omega), if_pos (by omega), hy, if_pos (by show ((x.1 + 0 : Nat) : Int) = _; omega), if_pos (by show ((x.1 + x.2.len + 0 : Nat) : Int) = _; omega), valid_f _ v2, Option.bind_some, v1, if_pos rfl, w64b (a := (j : Int) + 1) (by omega) (by omega)]
  rfl
theorem covers_loop (s : ByteArray) (hs : s.size ≤ 1048576) (L : List PV.S40) (M : List PV.S42) (hL : L.length ≤ 10000000) (hM : M.length ≤ 10000000) : ∀ (xs : List (Nat × Itm)) (f i j K : Nat),
  L.drop i = (spansF xs f s.size).map spanS → M.drop j = (toksL xs).map (tokS 0) → j + (toksL xs).length = M.length → Chain (xs.map tk) f s.size → (∀ x ∈ xs, x.2.kind ≠ 0 → validB (tokS 0 x) = true ∧ (tokS 0 x).f1.size ≤ 4611686018427387904) → i ≤ L.length →
  4 * xs.length + 4 ≤ K → PV.mjolnerlaw04_LexCovers.l0 K s true L M (f : Int) (j : Int) false (i : Int) = some true
 | [], f, i, j, K, hi, hj, hl, hc, hv, hil, hK => by
  obtain ⟨K, rfl⟩ : ∃ k, K = k + 3 := ⟨K - 3, by simp at hK; omega⟩
  have hl : j = M.length := hl
  have hfin : ∀ (i : Nat) (g : Bool), i = L.length → PV.mjolnerlaw04_LexCovers.l0 (K + 1) s true L M (s.size : Int) (j : Int) g (i : Int) = some true := by
   intro i g hi
   rw [PV.mjolnerlaw04_LexCovers.l0, if_neg (by omega), if_pos rfl, if_pos rfl, hl, beq_self_eq_true]
  have hc : f ≤ s.size := hc
  have hi : L.drop i = (gapS f s.size).map spanS := hi
  by_cases hf : f < s.size
  ·rw [show gapS f s.size = [(1, f, s.size)] from if_pos hf] at hi
   obtain ⟨hx, hlt, hr⟩ := rd40_at hi
   have hr : L.drop (i + 1) = [] := hr
   have he : i + 1 = L.length := by
    have := congrArg List.length hr
    rw [List.length_drop, List.length_nil] at this
    omega
   rw [PV.mjolnerlaw04_LexCovers.l0, if_pos (by omega), if_pos (by omega), hx]
   rw [show (spanS (1, f, s.size)).f0 = 1 from rfl, show (spanS (1, f, s.size)).f1 = (f : Int) from rfl, show (spanS (1, f, s.size)).f2 = (s.size : Int) from rfl]
   rw [if_pos rfl, if_neg (by omega), if_neg (by omega), if_neg (by decide), PV.mjolnerlaw04_LexCovers.j2, if_neg (by decide), if_neg (by decide), w64b (by omega) (by omega)]
   exact hfin (i + 1) _ he
  ·have hf : f = s.size := by omega
   subst hf
   rw [show gapS s.size s.size = [] from if_neg (by omega)] at hi
   have he : i = L.length := by
    have := congrArg List.length hi
    rw [List.length_drop, List.map_nil, List.length_nil] at this
    omega
   have := hfin i false he
   rw [PV.mjolnerlaw04_LexCovers.l0] at this ⊢
   rw [if_neg (by omega)] at this ⊢
   exact this
 | x :: xs, f, i, j, K, hi, hj, hl, hc, hv, hil, hK => by
  obtain ⟨c1, c2, c3⟩ := hc
  have c1 : f ≤ x.1 := c1
  have c2 : 1 ≤ x.2.len := c2
  have c3 : Chain (xs.map tk) (x.1 + x.2.len) s.size := c3
  have hend := chain_le _ _ _ c3
  rw [List.length_cons] at hK
  obtain ⟨K, rfl⟩ : ∃ k, K = k + 4 := ⟨K - 4, by omega⟩
  have htk : toksL (x :: xs) = (if x.2.kind = 0 then [] else [x]) ++ toksL xs := by
   unfold toksL isTok
   by_cases hk : x.2.kind = 0
   ·rw [List.filter_cons_of_neg (by simp [hk]), if_pos hk]
    rfl
   ·rw [List.filter_cons_of_pos (by simp [hk]), if_neg hk]
    rfl
  rw [spansF] at hi
  rw [htk] at hj hl
  have hj : M.drop j = (if x.2.kind = 0 then [] else [tokS 0 x]) ++ (toksL xs).map (tokS 0) := by
   rw [hj, List.map_append]
   congr 1
   split <;> rfl
  have hvx := hv x List.mem_cons_self
  have hgo : ∀ (i K : Nat) (g : Bool), L.drop i = spanS (if x.2.kind = 0 then 2 else 3, x.1, x.1 + x.2.len) :: (spansF xs (x.1 + x.2.len) s.size).map spanS → i ≤ L.length → 4 * xs.length + 4 ≤ K → PV.mjolnerlaw04_LexCovers.l0 (K + 2) s true L M (x.1 : Int) (j : Int) g (i : Int) = some true := by
   intro i K g hi hil hK
   obtain ⟨hx, hlt, hr⟩ := rd40_at hi
   obtain ⟨j', e1, e2, e3⟩ := covers_item s hs L M hL hM x _ _ i j g K hi hj c2 hend hvx
   rw [e3]
   refine covers_loop s hs L M hL hM xs _ (i + 1) j' K hr e1 ?_ c3 (fun y hy => hv y (List.mem_cons_of_mem _ hy)) (by omega) hK
   rw [List.length_append] at hl
   rw [e2, ← hl]
   split <;> simp <;> omega
  by_cases hf : f < x.1
  ·rw [show gapS f x.1 = [(1, f, x.1)] from if_pos hf] at hi
   have hi : L.drop i = spanS (1, f, x.1) :: (spanS (if x.2.kind = 0 then 2 else 3, x.1, x.1 + x.2.len) :: (spansF xs (x.1 + x.2.len) s.size).map spanS) := by rw [hi]; rfl
   obtain ⟨hx, hlt, hr⟩ := rd40_at hi
   rw [PV.mjolnerlaw04_LexCovers.l0, if_pos (by omega), if_pos (by omega), hx]
   rw [show (spanS (1, f, x.1)).f0 = 1 from rfl, show (spanS (1, f, x.1)).f1 = (f : Int) from rfl, show (spanS (1, f, x.1)).f2 = (x.1 : Int) from rfl]
   rw [if_pos rfl, if_neg (by omega), if_neg (by omega), if_neg (by decide), PV.mjolnerlaw04_LexCovers.j2, if_neg (by decide), if_neg (by decide), w64b (by omega) (by omega)]
   exact hgo (i + 1) K _ hr (by omega) (by omega)
  ·have hf : f = x.1 := by omega
   subst hf
   rw [show gapS x.1 x.1 = [] from if_neg (by omega)] at hi
   exact hgo i (K + 2) false (by rw [hi]; rfl) hil (by omega)
theorem covers_law (k : Nat) (hk : 8000000 ≤ k) (a0 : ByteArray) : PV.mjolnerlaw04_LexCovers.f k a0 = some true := by
 unfold PV.mjolnerlaw04_LexCovers.f
 obtain ⟨K, rfl⟩ : ∃ K, k = K + 1 := ⟨k - 1, by omega⟩
 rw [sane_any (K + 1) (by omega), Option.bind_some]
 rw [show lex_Spans.f a0 = some ((spansR (byl a0)).1.map spanS, (spansR (byl a0)).2.1, ((spansR (byl a0)).2.2 : Int)) from rfl, Option.bind_some,
  show lex_Lex.f a0 = some ((lexR (byl a0)).1.map (tokS 0), (lexR (byl a0)).2.1, ((lexR (byl a0)).2.2 : Int)) from rfl, Option.bind_some]
 rcases read_cases (byl a0) with ⟨e, p, he, h1, h2, _⟩ | ⟨hl, xs, hr, hx, h1, h2, _⟩
 ·rw [h1, h2]
  dsimp only
  have : (e != 0) = true := by simp [he]
  rw [if_pos rfl, this, PV.mjolnerlaw04_LexCovers.j0, if_pos rfl, if_pos rfl, if_pos rfl]
  rfl
 ·rw [h1, h2]
  dsimp only
  rw [if_pos rfl, show ((0 : Int) != 0) = false from rfl, PV.mjolnerlaw04_LexCovers.j0, if_neg (by decide)]
  have hsz := byl_length a0
  have hlen := spansF_len xs 0 a0.size
  have htl := toks_le xs
  have hc := rd_chain hr
  rw [Nat.zero_add, hsz] at hc
  rw [hsz]
  refine covers_loop a0 (by omega) _ _ (by rw [List.length_map]; omega) (by rw [List.length_map]; omega) xs 0 0 0 K rfl rfl (by rw [List.length_map]; omega) hc ?_ (Nat.zero_le _) (by omega)
  intro x hxm hk
  obtain ⟨v1, v2, _⟩ := tok_valid hr hl x (List.mem_map_of_mem hxm) hk
  exact ⟨v1, by omega⟩
theorem lexCovers_ex (a0 : ByteArray) (h0 : a0.size ≤ 1048576) : ∃ k, PV.mjolnerlaw04_LexCovers.f k a0 = some true := ⟨8000000, covers_law 8000000 (Nat.le_refl _) a0⟩
end Go.Proofs.YtniihjhlkpjnoaaDoor.Given