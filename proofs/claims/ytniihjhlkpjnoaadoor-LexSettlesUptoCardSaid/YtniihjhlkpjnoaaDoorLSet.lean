/- LexSettles: the plain law. -/
import Derived.Test.YtniihjhlkpjnoaaDoorPVx11
import Derived.Test.YtniihjhlkpjnoaaDoorLFed
import Derived.Test.YtniihjhlkpjnoaaDoorLSan
import Derived.Test.YtniihjhlkpjnoaaDoorLEx
set_option linter.unusedVariables false
set_option linter.unusedSimpArgs false
namespace Go.Proofs.YtniihjhlkpjnoaaDoor.Given
open Go.RowKit Go.Proofs.YtniihjhlkpjnoaaDoorW.PrintWords Go.Proofs.YtniihjhlkpjnoaaDoorW.PrintLast Go.Proofs.YtniihjhlkpjnoaaDoorW.PrintMore
theorem byl_app (a b : ByteArray) : byl (a ++ b) = byl a ++ byl b := by simp [byl]
theorem lex_after (s u : List UInt8) (hl : (s ++ u).length ≤ 4000) (hn : (feedA s).2.1 = none) (he : (lexR (s ++ u)).2.1 = 0) : ∃ ys, (lexR (s ++ u)).1 = toksL (feedA s).1 ++ ys := by
 have key := ((feed_app false u (s.length + 1) s 0 0 (by omega) ((s ++ u).length + 1) (by omega)).2 hn).2 ((s.drop (feedA s).2.2.1 ++ u).length + 1) (by show (s.drop (feedA s).2.2.1 ++ u).length < _; omega)
 have key : itemsL false ((s ++ u).length + 1) (s ++ u) 0 0 = ((feedA s).1 ++ _, _) := key
 have herr := items_err false ((s ++ u).length + 1) (s ++ u) 0 0
 unfold lexR at he ⊢
 rw [if_neg (by omega)] at he ⊢
 rw [key] at he herr ⊢
 dsimp only at he herr ⊢
 split at he
 ·rename_i h
  first | exact ⟨_, toks_app _ _⟩ | (rw [h]; exact ⟨_, toks_app _ _⟩)
 ·rename_i p h
  exact absurd he (herr p h)
theorem lex_after_err (s u : List UInt8) (hl : (s ++ u).length ≤ 4000) (e : Int × Nat) (he : (feedA s).2.1 = some e) : lexR (s ++ u) = ([], e.1, e.2) := by
 have key := (feed_app false u (s.length + 1) s 0 0 (by omega) ((s ++ u).length + 1) (by omega)).1 e he
 unfold lexR
 rw [if_neg (by omega), key]
set_option maxHeartbeats 2000000 in
theorem settles_law (k : Nat) (hk : 6000 ≤ k) (a0 a1 : ByteArray) (l2 : List Int) : PV.mjolnerlaw04_LexSettles.f k a0 a1 l2 = some true := by
 unfold PV.mjolnerlaw04_LexSettles.f
 rw [sane_any k (by omega), Option.bind_some]
 obtain ⟨K, rfl⟩ : ∃ K, k = K + 1 + 1 := ⟨k - 2, by omega⟩
 have hj : ∀ b : Bool, (b = false → a0.size ≤ 400 ∧ a1.size ≤ 400) → PV.mjolnerlaw04_LexSettles.j0 (K + 1 + 1) a0 a1 l2 true b = some true := by
  intro b hb
  rw [PV.mjolnerlaw04_LexSettles.j0]
  cases b with
  | true => rw [if_pos rfl]
  | false =>
   obtain ⟨h0, h1⟩ := hb rfl
   have hl0 := byl_length a0
   have hl1 := byl_length a1
   have hbl : (byl a0).length ≤ 4000 := by omega
   have hbb : (byl a0 ++ byl a1).length ≤ 4000 := by rw [List.length_append]; omega
   rw [if_neg (by decide), fed_any a0 h0 l2 (K + 1) (by omega), Option.bind_some, if_pos (by omega),
    show lex_Lex.f (a0 ++ a1) = some ((lexR (byl (a0 ++ a1))).1.map (tokS 0), (lexR (byl (a0 ++ a1))).2.1, ((lexR (byl (a0 ++ a1))).2.2 : Int)) from rfl, Option.bind_some, byl_app]
   obtain ⟨g1, g2, g3, g4⟩ := feedA_facts (byl a0) hbl
   have hlx := lex_len _ hbb
   cases hF : (feedA (byl a0)).2.1 with
   | none =>
    have hv : fedV a0 = ((toksL (feedA (byl a0)).1).map (tokS 0), ((feedA (byl a0)).2.2.1 : Int), ba ((byl a0).drop (feedA (byl a0)).2.2.1), (feedA (byl a0)).2.2.2, 0, 0) := by
     unfold fedV
     rw [hF]
    rw [hv]
    dsimp only
    have hz : (ba ((byl a0).drop (feedA (byl a0)).2.2.1)).size = a0.size - (feedA (byl a0)).2.2.1 := by rw [ba_size, List.length_drop, hl0]
    have hex : a0.extract ((feedA (byl a0)).2.2.1 : Int).toNat a0.size = ba ((byl a0).drop (feedA (byl a0)).2.2.1) := by
     rw [Int.toNat_natCast, ← hl0, ← ba_tail, ba_byl]
    rw [if_pos rfl, if_neg (by omega), hz, w64s (by omega) (by omega), if_pos (by omega), if_pos (by rw [g2, List.length_map]), if_pos (by omega), if_pos (by omega), hex, PV.mjolnerlaw04_LexSettles.j1, if_neg (by simp)]
    by_cases he : (lexR (byl a0 ++ byl a1)).2.1 = 0
    ·obtain ⟨ys, hys⟩ := lex_after (byl a0) (byl a1) hbb hF he
     have htk : ((lexR (byl a0 ++ byl a1)).1.map (tokS 0)).take ((((toksL (feedA (byl a0)).1).map (tokS 0)).length : Int)).toNat = (toksL (feedA (byl a0)).1).map (tokS 0) := by
      rw [hys, List.map_append, Int.toNat_natCast, List.take_left]
     rw [if_pos he, if_pos rfl, if_pos (by rw [hys, List.map_append, List.length_append]; omega), if_pos (by omega), htk, exact_same' _ (by rw [List.length_map]; omega) _ (by rw [List.length_map]; omega)]
     rfl
    ·rw [if_neg he]
   | some e =>
    have hv : fedV a0 = ([], 0, ⟨#[]⟩, 0, e.1, (e.2 : Int)) := by
     unfold fedV
     rw [hF]
    have hee : e.1 ≠ 0 := by
     obtain ⟨_, _, c3, _, _, _⟩ := feed_items ((byl a0).length + 1) (byl a0) 0 0 (by omega)
     exact items_err true _ _ _ _ e (by rw [c3]; exact hF)
    rw [hv, lex_after_err (byl a0) (byl a1) hbb e hF]
    dsimp only
    rw [if_neg hee, Option.bind_some, if_pos rfl, if_pos rfl]
    simp
 by_cases hs : (a0.size : Int) > 400
 ·rw [if_pos hs]
  exact hj true (fun h => by cases h)
 ·rw [if_neg hs]
  refine hj _ fun h => ?_
  have := of_decide_eq_false h
  omega
theorem lexSettles_ex (a0 a1 : ByteArray) (l2 : List Int) (h0 : a0.size ≤ 1048576) (h1 : a1.size ≤ 1048576) : ∃ k, PV.mjolnerlaw04_LexSettles.f k a0 a1 l2 = some true := ⟨6000, settles_law 6000 (Nat.le_refl _) a0 a1 l2⟩
end Go.Proofs.YtniihjhlkpjnoaaDoor.Given