/- LexPrints: the plain law. -/
import Derived.Test.YtniihjhlkpjnoaaDoorPVx15
import Derived.Test.YtniihjhlkpjnoaaDoorLVal
import Derived.Test.YtniihjhlkpjnoaaDoorLSan
set_option linter.unusedVariables false
set_option linter.unusedSimpArgs false
namespace Go.Proofs.YtniihjhlkpjnoaaDoor.Given
open Go.RowKit Go.Proofs.YtniihjhlkpjnoaaDoorW.PrintWords Go.Proofs.YtniihjhlkpjnoaaDoorW.PrintLast Go.Proofs.YtniihjhlkpjnoaaDoorW.PrintMore
theorem check_loop (l : List PV.S42) (hs : smallB l = true) (hl : l.length ≤ 131072) : ∀ (rem K i : Nat), l.length - i ≤ rem → rem + 1 ≤ K →
  ∃ e j, PV.lex_Check.l0 K l (l.length : Int) (i : Int) = some (e, j) ∧ (e = 0 → ∀ x ∈ l.drop i, validB x = true) := by
 intro rem
 induction rem with
 | zero =>
  intro K i h1 h2
  obtain ⟨K, rfl⟩ : ∃ K', K = K' + 1 := ⟨K - 1, by omega⟩
  rw [PV.lex_Check.l0, if_neg (by omega)]
  exact ⟨0, 0, rfl, fun _ x hx => by rw [List.drop_of_length_le (by omega)] at hx; cases hx⟩
 | succ rem ih =>
  intro K i h1 h2
  obtain ⟨K, rfl⟩ : ∃ K', K = K' + 1 := ⟨K - 1, by omega⟩
  rw [PV.lex_Check.l0]
  by_cases hi : (i : Int) < (l.length : Int)
  ·have hi' : i < l.length := by omega
   obtain ⟨hx, _, hd⟩ := rd42_at (List.drop_eq_getElem_cons hi')
   have hsz := small_at l hs i hi'
   rw [if_pos hi, if_pos (by omega), if_pos hi, valid_f _ (by omega), Option.bind_some]
   cases hv : validB (PV.rd_T42 l (i : Int)) with
   | false =>
    rw [if_neg (by decide)]
    exact ⟨7, i, rfl, fun h => absurd h (by decide)⟩
   | true =>
    rw [if_pos rfl, w64b (by omega) (by omega)]
    obtain ⟨e, j, g1, g2⟩ := ih K (i + 1) (by omega) (by omega)
    refine ⟨e, j, g1, fun he x hxm => ?_⟩
    rw [List.drop_eq_getElem_cons hi'] at hxm
    rcases List.mem_cons.1 hxm with rfl | hxm
    ·rw [← hx]
     exact hv
    ·exact g2 he x hxm
  ·rw [if_neg hi]
   exact ⟨0, 0, rfl, fun _ x hx => by rw [List.drop_of_length_le (by omega)] at hx; cases hx⟩
theorem joinB_snoc : ∀ (xs : List (List UInt8)) (y : List UInt8), joinB (xs ++ [y]) = joinB xs ++ (if xs = [] then [] else [32]) ++ y
 | [], y => by simp [joinB]
 | [b], y => by simp [joinB]
 | b :: c :: r, y => by
  have := joinB_snoc (c :: r) y
  rw [if_neg (by simp)] at this ⊢
  show joinB (b :: c :: (r ++ [y])) = _
  rw [joinB, joinB, show c :: (r ++ [y]) = (c :: r) ++ [y] from rfl, this]
  simp
theorem joinK_eq (l : List PV.S42) : ∀ k, k ≤ l.length → joinK l k = joinB ((l.take k).map tokB)
 | 0, _ => rfl
 | k + 1, hk => by
  have hlt : k < l.length := hk
  obtain ⟨hx, _, _⟩ := rd42_at (List.drop_eq_getElem_cons hlt)
  rw [joinK, joinK_eq l k (by omega), List.take_add_one, List.getElem?_eq_getElem hlt, hx]
  show _ = joinB ((l.take k ++ [l[k]]).map tokB)
  rw [List.map_append, List.map_cons, List.map_nil, joinB_snoc]
  congr 2
  by_cases h : k = 0
  ·subst h
   rfl
  ·rw [if_neg h, if_neg]
   intro hz
   have := congrArg List.length hz
   rw [List.length_map, List.length_take, List.length_nil] at this
   omega
theorem same_loop (A B : List PV.S42) (hAB : A.map sCor = B.map sCor) (hl : A.length ≤ 10000000) : ∀ (rem K i : Nat), A.length - i ≤ rem → rem + 1 ≤ K → PV.mjolnerref04_Same.l0 K A B (i : Int) = some true := by
 have hlen : A.length = B.length := by simpa using congrArg List.length hAB
 intro rem
 induction rem with
 | zero =>
  intro K i h1 h2
  obtain ⟨K, rfl⟩ : ∃ K', K = K' + 1 := ⟨K - 1, by omega⟩
  rw [PV.mjolnerref04_Same.l0, if_neg (by omega)]
 | succ rem ih =>
  intro K i h1 h2
  obtain ⟨K, rfl⟩ : ∃ K', K = K' + 1 := ⟨K - 1, by omega⟩
  rw [PV.mjolnerref04_Same.l0]
  by_cases hi : (i : Int) < (A.length : Int)
  ·have hiA : i < A.length := by omega
   have hiB : i < B.length := by omega
   obtain ⟨hx, _, _⟩ := rd42_at (List.drop_eq_getElem_cons hiA)
   obtain ⟨hy, _, _⟩ := rd42_at (List.drop_eq_getElem_cons hiB)
   have hc : sCor A[i] = sCor B[i] := by
    have := congrArg (fun l => l[i]?) hAB
    simpa [hiA, hiB] using this
   rw [if_pos hi, if_pos (by omega), if_pos (by omega), hx, hy]
   unfold PV.mjolnerref04_Alike.f
   have c1 : A[i].f0 = B[i].f0 := congrArg Prod.fst hc
   have c2 : byl A[i].f1 = byl B[i].f1 := congrArg (fun z => z.2.1) hc
   have c3 : A[i].f2 = B[i].f2 := congrArg (fun z => z.2.2) hc
   rw [if_pos c1, if_pos (by rw [ByteArray.toList_eq, ByteArray.toList_eq]; exact c2), c3, Option.bind_some, beq_self_eq_true, if_pos rfl, w64b (by omega) (by omega)]
   exact ih K (i + 1) (by omega) (by omega)
  ·rw [if_neg hi]
theorem same_of (A B : List PV.S42) (hAB : A.map sCor = B.map sCor) (hl : A.length ≤ 10000000) (K : Nat) (hK : A.length + 1 ≤ K) : PV.mjolnerref04_Same.f K A B = some true := by
 have hlen : A.length = B.length := by simpa using congrArg List.length hAB
 unfold PV.mjolnerref04_Same.f
 rw [if_pos (by rw [hlen])]
 exact same_loop A B hAB hl A.length K 0 (by omega) hK
theorem print_back (l : List PV.S42) (hl : l.length ≤ 131072) (hv : ∀ x ∈ l, validB x = true) (hj : (joinK l l.length).length ≤ 1048576) :
  (lexR (joinK l l.length)).2.1 = 0 ∧ l.map sCor = ((lexR (joinK l l.length)).1.map (tokS 0)).map sCor ∧ (lexR (joinK l l.length)).1.length = l.length := by
 rw [joinK_eq l _ (Nat.le_refl _), List.take_length] at hj ⊢
 obtain ⟨zs, h1, h2⟩ := printed (l.map tokB) 0 0 (fun b hb => by
  obtain ⟨x, hx, rfl⟩ := List.mem_map.1 hb
  exact (of_valid x (hv x hx)).1) (by rw [List.length_map]; omega)
 obtain ⟨ys, e1, e2, e3⟩ := lexR_of_rd h1 hj
 have hk : ∀ y ∈ ys, y.2.kind ≠ 0 := by
  intro y hy
  have : (tk y).2 ∈ (l.map tokB).map itm := by
   rw [← h2, ← e2]
   exact List.mem_map_of_mem (List.mem_map_of_mem hy)
  obtain ⟨b, hb, e⟩ := List.mem_map.1 this
  obtain ⟨x, hx, rfl⟩ := List.mem_map.1 hb
  obtain ⟨⟨_, _, _, _, k⟩, _, _⟩ := of_valid x (hv x hx)
  rw [e] at k
  exact k
 have ht : toksL ys = ys := by
  unfold toksL
  rw [List.filter_eq_self]
  intro y hy
  simp [isTok, hk y hy]
 rw [e3]
 refine ⟨rfl, ?_, ?_⟩
 ·show l.map sCor = ((toksL ys).map (tokS 0)).map sCor
  rw [ht, List.map_map]
  have e4 : ys.map (sCor ∘ tokS 0) = (zs.map (·.2)).map cCor := by
   rw [← e2, List.map_map, List.map_map]
   exact List.map_congr_left fun p _ => sCor_tok 0 p
  rw [e4, h2, List.map_map, List.map_map]
  exact List.map_congr_left fun x hx => (of_valid x (hv x hx)).2.2
 ·show (toksL ys).length = l.length
  have := congrArg List.length h2
  rw [ht]
  rw [← e2] at this
  simpa using this
theorem prints_loop (s : ByteArray) (hs : s.size ≤ 1048576) (up : Bool) (xs : List (Nat × Itm)) (hr : Rd (byl s) 0 0 (xs.map tk)) (hx : xs.length ≤ 2000000) : ∀ (rem K i : Nat), (toksL xs).length - i ≤ rem → 1 ≤ i → 3 * rem + 4 ≤ K →
  PV.mjolnerlaw04_LexPrints.l0 K up ((toksL xs).map (tokS 0)) 0 (i : Int) = some up := by
 have htl := toks_le xs
 intro rem
 induction rem with
 | zero =>
  intro K i h1 h2 h3
  obtain ⟨K, rfl⟩ : ∃ K', K = K' + 1 + 1 := ⟨K - 2, by omega⟩
  rw [PV.mjolnerlaw04_LexPrints.l0, if_pos rfl, decide_eq_false (by rw [List.length_map]; omega), PV.mjolnerlaw04_LexPrints.j2, if_neg (by decide)]
 | succ rem ih =>
  intro K i h1 h2 h3
  obtain ⟨K, rfl⟩ : ∃ K', K = K' + 1 + 1 + 1 := ⟨K - 3, by omega⟩
  rw [PV.mjolnerlaw04_LexPrints.l0, if_pos rfl]
  by_cases hi : i < (toksL xs).length
  ·obtain ⟨j, rfl⟩ : ∃ j, i = j + 1 := ⟨i - 1, by omega⟩
   have hj : j < (toksL xs).length := by omega
   have hjl : j < ((toksL xs).map (tokS 0)).length := by rw [List.length_map]; exact hj
   have hil : j + 1 < ((toksL xs).map (tokS 0)).length := by rw [List.length_map]; exact hi
   obtain ⟨ga, _, _⟩ := rd42_at (List.drop_eq_getElem_cons hjl)
   obtain ⟨gb, _, _⟩ := rd42_at (List.drop_eq_getElem_cons hil)
   rw [List.getElem_map] at ga gb
   have e1 : wrap64 (((j + 1 : Nat) : Int) - 1) = (j : Int) := by rw [w64b (by omega) (by omega)]; omega
   rw [decide_eq_true (by omega), PV.mjolnerlaw04_LexPrints.j2, if_pos rfl, e1, if_pos (by omega), if_pos (by omega), if_pos (by omega), if_pos (by omega), ga, gb]
   have ma : (toksL xs)[j] ∈ toksL xs := List.getElem_mem _
   have mb : (toksL xs)[j + 1] ∈ toksL xs := List.getElem_mem _
   generalize (toksL xs)[j] = p at ga ma ⊢
   generalize (toksL xs)[j + 1] = q at gb mb ⊢
   have hsz := byl_length s
   obtain ⟨pa, ka⟩ := List.mem_filter.1 (show p ∈ xs.filter isTok from ma)
   obtain ⟨pb, kb⟩ := List.mem_filter.1 (show q ∈ xs.filter isTok from mb)
   have ka : p.2.kind ≠ 0 := by simpa [isTok] using ka
   have kb : q.2.kind ≠ 0 := by simpa [isTok] using kb
   obtain ⟨va, sa, ta⟩ := tok_valid hr (by omega) p (List.mem_map_of_mem pa) ka
   obtain ⟨vb, sb, tb⟩ := tok_valid hr (by omega) q (List.mem_map_of_mem pb) kb
   rw [touch_f K (tokS 0 p) (tokS 0 q) (by omega) (by omega), Option.bind_some]
   have h0 : (touchB (tokS 0 p) (tokS 0 q)).2 = 0 := by
    unfold touchB
    rw [va, vb]
    rfl
   rw [if_pos h0, w64b (by omega) (by omega)]
   have hnext := ih (K + 1) (j + 1 + 1) (by omega) (by omega) (by omega)
   by_cases hpq : (tokS 0 p).f4 = (tokS 0 q).f3
   ·have hpq' : p.1 + p.2.len = q.1 := by
     have : ((p.1 + p.2.len + 0 : Nat) : Int) = ((q.1 + 0 : Nat) : Int) := hpq
     omega
    have h2 := rd_two hr (tk p) (tk q) (List.mem_map_of_mem pa) (List.mem_map_of_mem pb) hpq'
    have oa := rd_one hr (tk p) (List.mem_map_of_mem pa) ka
    have ob := rd_one hr (tk q) (List.mem_map_of_mem pb) kb
    have hla := (rd_mem hr (tk p) (List.mem_map_of_mem pa)).2.1
    have hlb := (rd_mem hr (tk q) (List.mem_map_of_mem pb)).2.1
    have e1 : tokB (tokS 0 p) ++ tokB (tokS 0 q) = ((byl s).drop ((tk p).1 - 0)).take (cLen (tk p).2 + cLen (tk q).2) := by
     rw [ta, tb, List.take_add]
     show (List.drop p.1 (byl s)).take p.2.len ++ (List.drop q.1 (byl s)).take q.2.len = (List.drop p.1 (byl s)).take p.2.len ++ ((List.drop p.1 (byl s)).drop p.2.len).take q.2.len
     rw [List.drop_drop, hpq']
    have e2 : itm (tokB (tokS 0 p)) = (tk p).2 := by rw [ta]; exact oa.2
    have e3 : itm (tokB (tokS 0 q)) = (tk q).2 := by rw [tb]; exact ob.2
    have e4 : (tokB (tokS 0 p)).length = cLen (tk p).2 := by
     rw [ta, List.length_take, List.length_drop]
     have : (tk p).1 = p.1 := rfl
     have : cLen (tk p).2 = p.2.len := rfl
     omega
    have ht := touch_of (tokS 0 p) (tokS 0 q) va vb (by rw [e1, e2, e3, e4]; exact h2) (by rw [e1, List.length_take, List.length_drop]; omega)
    rw [if_pos hpq, ht, if_pos rfl]
    exact hnext
   ·rw [if_neg hpq]
    exact hnext
  ·rw [decide_eq_false (by rw [List.length_map]; omega), PV.mjolnerlaw04_LexPrints.j2, if_neg (by decide)]
theorem prints_law (k : Nat) (hk : 8000000 ≤ k) (l0 : List PV.S42) (hsm : smallB l0 = true) (hl0 : l0.length ≤ 10000000) (a1 : ByteArray) : PV.mjolnerlaw04_LexPrints.f k l0 a1 = some true := by
 obtain ⟨K, rfl⟩ : ∃ K, k = K + 1 := ⟨k - 1, by omega⟩
 unfold PV.mjolnerlaw04_LexPrints.f
 rw [sane_any (K + 1) (by omega), Option.bind_some]
 have hj : PV.mjolnerlaw04_LexPrints.j0 (K + 1) a1 true false = some true := by
  rw [PV.mjolnerlaw04_LexPrints.j0, if_neg (by decide), show lex_Lex.f a1 = some ((lexR (byl a1)).1.map (tokS 0), (lexR (byl a1)).2.1, ((lexR (byl a1)).2.2 : Int)) from rfl, Option.bind_some]
  have hsz := byl_length a1
  rcases read_cases (byl a1) with ⟨e, p, he, h1, _, _⟩ | ⟨hl, xs, hr, hx, h1, _, _⟩
  ·rw [h1]
   dsimp only
   obtain ⟨K, rfl⟩ : ∃ K', K = K' + 1 + 1 := ⟨K - 2, by omega⟩
   rw [PV.mjolnerlaw04_LexPrints.l0, if_neg he, PV.mjolnerlaw04_LexPrints.j2, if_neg (by decide)]
  ·rw [h1]
   have htl := toks_le xs
   exact prints_loop a1 (by omega) true xs hr (by omega) (toksL xs).length K 1 (by omega) (by omega) (by omega)
 have hlex : ∀ s : ByteArray, lex_Lex.f s = some ((lexR (byl s)).1.map (tokS 0), (lexR (byl s)).2.1, ((lexR (byl s)).2.2 : Int)) := fun _ => rfl
 unfold lex_Print.f PV.lex_Check.f
 by_cases hlen : (l0.length : Int) > 131072
 ·rw [if_pos hlen, Option.bind_some, if_pos (by decide), Option.bind_some, hlex, Option.bind_some]
  dsimp only
  rw [if_neg (by decide)]
  exact hj
 ·rw [if_neg hlen]
  obtain ⟨e, j, g1, g2⟩ := check_loop l0 hsm (by omega) l0.length (l0.length + 2) 0 (by omega) (by omega)
  have g1 : PV.lex_Check.l0 (l0.length + 2) l0 (l0.length : Int) 0 = some (e, j) := g1
  rw [g1, Option.bind_some]
  dsimp only
  by_cases he : e = 0
  ·rw [if_neg (fun h => h he), if_neg (by rw [hsm]; intro h; rcases h with h | h; cases h; omega)]
   by_cases hlong : 1048576 < (joinK l0 l0.length).length
   ·rw [if_pos hlong, Option.bind_some, hlex, Option.bind_some]
    dsimp only
    rw [if_neg (by decide)]
    exact hj
   ·rw [if_neg hlong, Option.bind_some, hlex, Option.bind_some]
    dsimp only
    rw [show byl (ba (joinK l0 l0.length)) = joinK l0 l0.length from ba_list _]
    obtain ⟨p1, p2, p3⟩ := print_back l0 (by omega) (fun x hx => g2 he x (by simpa using hx)) (by omega)
    rw [if_pos rfl, if_pos p1, same_of _ _ p2 hl0 _ (by omega), Option.bind_some]
    exact hj
  ·rw [if_pos he, Option.bind_some, hlex, Option.bind_some]
   dsimp only
   rw [if_neg he]
   exact hj
theorem lexPrints_ex (l0 : List PV.S42) (a1 : ByteArray) (hl : l0.length ≤ 1048576) (hx : ∀ x ∈ l0, x.f1.size + 6 ≤ 1048576) (h1 : a1.size ≤ 1048576) : ∃ k, PV.mjolnerlaw04_LexPrints.f k l0 a1 = some true :=
 ⟨8000000, prints_law 8000000 (Nat.le_refl _) l0 (by unfold smallB; rw [List.all_eq_true]; exact fun x hm => decide_eq_true (by have := hx x hm; omega)) (by omega) a1⟩
end Go.Proofs.YtniihjhlkpjnoaaDoor.Given