/- LexPieces: the plain law. -/
import Derived.Test.YtniihjhlkpjnoaaDoorPVx10
import Derived.Test.YtniihjhlkpjnoaaDoorLFed
import Derived.Test.YtniihjhlkpjnoaaDoorLEx
import Derived.Test.YtniihjhlkpjnoaaDoorLSan
set_option linter.unusedVariables false
set_option linter.unusedSimpArgs false
namespace Go.Proofs.YtniihjhlkpjnoaaDoor.Given
open Go.RowKit Go.Proofs.YtniihjhlkpjnoaaDoorW.PrintWords Go.Proofs.YtniihjhlkpjnoaaDoorW.PrintLast Go.Proofs.YtniihjhlkpjnoaaDoorW.PrintMore
set_option maxHeartbeats 2000000 in
theorem pieces_law (k : Nat) (hk : 5000 ≤ k) (a0 : ByteArray) (l1 l2 : List Int) : PV.mjolnerlaw04_LexPieces.f k a0 l1 l2 = some true := by
 unfold PV.mjolnerlaw04_LexPieces.f
 rw [sane_any k (by omega), Option.bind_some]
 by_cases hs : (a0.size : Int) > 400
 ·rw [if_pos hs]
 ·rw [if_neg hs]
  have hs' : a0.size ≤ 400 := by omega
  have hbl : (byl a0).length ≤ 4000 := by rw [byl_length]; omega
  rw [show lex_Lex.f a0 = some ((lexR (byl a0)).1.map (tokS 0), (lexR (byl a0)).2.1, ((lexR (byl a0)).2.2 : Int)) from rfl, Option.bind_some, fed_any a0 hs' l1 k (by omega), Option.bind_some, fed_any a0 hs' l2 k (by omega), Option.bind_some, if_pos rfl, if_neg (by simp)]
  obtain ⟨K, rfl⟩ : ∃ K, k = K + 1 := ⟨k - 1, by omega⟩
  obtain ⟨g1, g2, g3, g4⟩ := feedA_facts (byl a0) hbl
  have hlx := lex_len (byl a0) hbl
  cases hF : (feedA (byl a0)).2.1 with
  | none =>
   have hv : fedV a0 = ((toksL (feedA (byl a0)).1).map (tokS 0), ((feedA (byl a0)).2.2.1 : Int), ba ((byl a0).drop (feedA (byl a0)).2.2.1), (feedA (byl a0)).2.2.2, 0, 0) := by
    unfold fedV
    rw [hF]
   rw [hv]
   dsimp only
   rw [if_pos rfl, exact_same' _ (by rw [List.length_map]; omega) _ (by rw [List.length_map]; omega), Option.bind_some, PV.mjolnerlaw04_LexPieces.j0, if_neg (by decide), if_pos rfl]
   have e1 : byl (ba ((byl a0).drop (feedA (byl a0)).2.2.1)) = (byl a0).drop (feedA (byl a0)).2.2.1 := ba_list _
   have hfin : lex_Finish.f ((feedA (byl a0)).2.2.1 : Int) (ba ((byl a0).drop (feedA (byl a0)).2.2.1)) (feedA (byl a0)).2.2.2 = some ((finR (feedA (byl a0)).2.2.1 ((byl a0).drop (feedA (byl a0)).2.2.1) (feedA (byl a0)).2.2.2).1.map (tokS (feedA (byl a0)).2.2.1), (finR (feedA (byl a0)).2.2.1 ((byl a0).drop (feedA (byl a0)).2.2.1) (feedA (byl a0)).2.2.2).2.1, (finR (feedA (byl a0)).2.2.1 ((byl a0).drop (feedA (byl a0)).2.2.1) (feedA (byl a0)).2.2.2).2.2) := by
    unfold lex_Finish.f
    rw [if_pos (by rw [ba_size, List.length_drop]; omega), e1, Int.toNat_natCast]
   rw [hfin, Option.bind_some]
   obtain ⟨f1, f2⟩ := fin_end (byl a0) hbl hF
   by_cases he : (lexR (byl a0)).2.1 = 0
   ·obtain ⟨new, b1, b2⟩ := f1 he
    rw [b1, he]
    dsimp only
    have hln : (toksL (feedA (byl a0)).1).length + new.length ≤ 4001 := by
     have := congrArg List.length b2
     rw [List.length_append, List.length_map] at this
     omega
    have hout : (toksL (feedA (byl a0)).1).map (tokS 0) ++ new.map (tokS (feedA (byl a0)).2.2.1) = (lexR (byl a0)).1.map (tokS 0) := by
     rw [b2, List.map_append, tok_shift]
    rw [if_pos rfl, if_pos rfl, if_pos rfl, if_pos (by rw [List.length_map, List.length_map]; omega), hout, exact_same' _ (by rw [List.length_map]; omega) _ (by rw [List.length_map]; omega)]
    rfl
   ·rw [f2 he]
    dsimp only
    rw [if_neg he, if_pos rfl, if_pos rfl]
    simp
  | some e =>
   have hv : fedV a0 = ([], 0, ⟨#[]⟩, 0, e.1, (e.2 : Int)) := by
    unfold fedV
    rw [hF]
   have hee : e.1 ≠ 0 := by
    obtain ⟨_, _, c3, _, _, _⟩ := feed_items ((byl a0).length + 1) (byl a0) 0 0 (by omega)
    exact items_err true _ _ _ _ e (by rw [c3]; exact hF)
   rw [hv, feed_err (byl a0) hbl e hF]
   dsimp only
   rw [if_neg hee, PV.mjolnerlaw04_LexPieces.j0, if_neg (by decide), if_neg hee, if_pos rfl, if_pos rfl]
   simp
theorem lexPieces_ex (a0 : ByteArray) (l1 l2 : List Int) (h0 : a0.size ≤ 1048576) : ∃ k, PV.mjolnerlaw04_LexPieces.f k a0 l1 l2 = some true := ⟨5000, pieces_law 5000 (Nat.le_refl _) a0 l1 l2⟩
end Go.Proofs.YtniihjhlkpjnoaaDoor.Given