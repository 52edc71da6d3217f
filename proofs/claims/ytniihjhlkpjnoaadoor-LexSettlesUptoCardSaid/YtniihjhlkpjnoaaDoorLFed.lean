/- Plain: feeding a text in any pieces. -/
import Derived.Test.YtniihjhlkpjnoaaDoorPVx7
import Derived.Test.YtniihjhlkpjnoaaDoorLexV
set_option linter.unusedVariables false
set_option linter.unusedSimpArgs false
namespace Go.Proofs.YtniihjhlkpjnoaaDoor.Given
open Go.RowKit Go.Proofs.YtniihjhlkpjnoaaDoorW.PrintWords Go.Proofs.YtniihjhlkpjnoaaDoorW.PrintLast Go.Proofs.YtniihjhlkpjnoaaDoorW.PrintMore
theorem w64s {a : Int} (h1 : -1000000 ≤ a) (h2 : a ≤ 1000000) : wrap64 a = a := IntWalk.wrap64_in _ (by omega)
theorem pick_nine (c : Int) : ∃ q : Nat, PV.mjolnerlaw04_pick.f c 9 = some (q : Int) ∧ q < 9 := by
 unfold PV.mjolnerlaw04_pick.f
 rw [if_neg (by decide)]
 have h1 : Int.tmod c 9 < 9 := Int.tmod_lt_of_pos c (by decide)
 have h2 : -9 < Int.tmod c 9 := by
  have h3 := Int.natAbs_tmod c 9
  have h4 : c.natAbs % (9 : Int).natAbs < 9 := Nat.mod_lt _ (by decide)
  omega
 by_cases h : Int.tmod c 9 < 0
 ·rw [if_pos h, w64s (by omega) (by omega)]
  exact ⟨(Int.tmod c 9 + 9).toNat, by rw [Int.toNat_of_nonneg (by omega)], by omega⟩
 ·rw [if_neg h]
  exact ⟨(Int.tmod c 9).toNat, by rw [Int.toNat_of_nonneg (by omega)], by omega⟩
theorem cut_some (s : ByteArray) (i : Nat) (hi : i ≤ s.size) (hs : s.size ≤ 400) (c : Int) : ∃ n, 1 ≤ n ∧ PV.mjolnerlaw04_cut.f s i c = some (ba (((byl s).drop i).take n)) := by
 obtain ⟨q, h1, h2⟩ := pick_nine c
 unfold PV.mjolnerlaw04_cut.f
 rw [h1, Option.bind_some, w64s (a := 1 + (q : Int)) (by omega) (by omega), w64s (a := (i : Int) + (1 + (q : Int))) (by omega) (by omega)]
 have hm : mn (s.size : Int) ((i : Int) + (1 + (q : Int))) = ((min s.size (i + (1 + q)) : Nat) : Int) := by
  unfold mn
  split <;> omega
 rw [hm, if_pos (by omega), if_pos (by omega), if_pos (by omega), Int.toNat_natCast, Int.toNat_natCast]
 refine ⟨1 + q, by omega, ?_⟩
 have hb : s.extract i (min s.size (i + (1 + q))) = ba (((byl s).take (min s.size (i + (1 + q)))).drop i) := by
  rw [← ba_extract, ba_byl]
 rw [hb, List.drop_take]
 congr 2
 have hl := byl_length s
 rcases Nat.lt_or_ge s.size (i + (1 + q)) with h | h
 ·rw [Nat.min_eq_left (by omega), List.take_of_length_le (by rw [List.length_drop]; omega), List.take_of_length_le (by rw [List.length_drop]; omega)]
 ·rw [Nat.min_eq_right h]
  congr 1
  omega
def fedV (s : ByteArray) : List PV.S42 × Int × ByteArray × Int × Int × Int :=
 match (feedA (byl s)).2.1 with
 | none => ((toksL (feedA (byl s)).1).map (tokS 0), ((feedA (byl s)).2.2.1 : Int), ba ((byl s).drop (feedA (byl s)).2.2.1), (feedA (byl s)).2.2.2, 0, 0)
 | some e => ([], 0, ⟨#[]⟩, 0, e.1, (e.2 : Int))
theorem tok_shift (d : Nat) (xs : List (Nat × Itm)) : (xs.map (shiftI d)).map (tokS 0) = xs.map (tokS d) := by
 rw [List.map_map]
 refine List.map_congr_left fun p _ => ?_
 show tokS 0 (p.1 + d, p.2) = tokS d p
 unfold tokS
 congr 1
 show (((p.1 + d + p.2.len + 0 : Nat)) : Int) = ((p.1 + p.2.len + d : Nat) : Int)
 congr 1
 omega
theorem feedA_more (s p : List UInt8) (e : Int × Nat) (h : (feedA s).2.1 = some e) : (feedA (s ++ p)).2.1 = some e :=
 ((feed_feed p (s.length + 1) s 0 0 (by omega) ((s ++ p).length + 1) (by omega)).1 e h).2
theorem fed_loop (s : ByteArray) (cuts : List Int) (hs : s.size ≤ 400) : ∀ (rem K i : Nat) (n : Int), s.size - i ≤ rem → i ≤ s.size → 0 ≤ n → n ≤ i → 2 * rem + 2 ≤ K → (feedA ((byl s).take i)).2.1 = none →
  PV.mjolnerlaw04_fed.l0 K s cuts ((toksL (feedA ((byl s).take i)).1).map (tokS 0)) (i : Int) n ((feedA ((byl s).take i)).2.2.1 : Int) (ba (((byl s).take i).drop (feedA ((byl s).take i)).2.2.1)) (feedA ((byl s).take i)).2.2.2 = some (fedV s) := by
 have hl := byl_length s
 intro rem
 induction rem with
 | zero =>
  intro K i n h1 h2 h3 h4 h5 h6
  obtain ⟨K, rfl⟩ : ∃ K', K = K' + 1 := ⟨K - 1, by omega⟩
  have hi : i = s.size := by omega
  rw [PV.mjolnerlaw04_fed.l0, if_neg (by omega)]
  have ht : (byl s).take i = byl s := List.take_of_length_le (by omega)
  rw [ht] at h6 ⊢
  unfold fedV
  rw [h6]
 | succ rem ih =>
  intro K i n h1 h2 h3 h4 h5 h6
  rcases Nat.lt_or_ge i s.size with hi | hi
  ·obtain ⟨K, rfl⟩ : ∃ K', K = K' + 1 + 1 := ⟨K - 2, by omega⟩
   have key : ∀ c : Int, PV.mjolnerlaw04_fed.j1 (K + 1) s cuts ((toksL (feedA ((byl s).take i)).1).map (tokS 0)) (i : Int) n c ((feedA ((byl s).take i)).2.2.1 : Int) (ba (((byl s).take i).drop (feedA ((byl s).take i)).2.2.1)) (feedA ((byl s).take i)).2.2.2 = some (fedV s) := by
    intro c
    obtain ⟨q, hq1, hcut⟩ := cut_some s i h2 hs c
    rw [PV.mjolnerlaw04_fed.j1, hcut, Option.bind_some]
    have hpl : (((byl s).drop i).take q).length ≤ 400 := by rw [List.length_take, List.length_drop]; omega
    have htk : (byl s).take i ++ ((byl s).drop i).take q = (byl s).take (i + q) := by rw [List.take_add]
    have hln : ((byl s).take i ++ ((byl s).drop i).take q).length ≤ 4000 := by rw [htk, List.length_take]; omega
    obtain ⟨a1, a2⟩ := feed_step ((byl s).take i) (((byl s).drop i).take q) hln h6
    have hil : ((byl s).take i).length = i := by rw [List.length_take]; omega
    obtain ⟨f1, f2, f3, f4⟩ := feedA_facts ((byl s).take i) (by omega)
    have hfe : lex_Feed.f ((feedA ((byl s).take i)).2.2.1 : Int) (ba (((byl s).take i).drop (feedA ((byl s).take i)).2.2.1)) (feedA ((byl s).take i)).2.2.2 (ba (((byl s).drop i).take q)) =
      some ((feedR (feedA ((byl s).take i)).2.2.1 (((byl s).take i).drop (feedA ((byl s).take i)).2.2.1) (feedA ((byl s).take i)).2.2.2 (((byl s).drop i).take q)).1.map (tokS (feedA ((byl s).take i)).2.2.1),
       (feedR (feedA ((byl s).take i)).2.2.1 (((byl s).take i).drop (feedA ((byl s).take i)).2.2.1) (feedA ((byl s).take i)).2.2.2 (((byl s).drop i).take q)).2.1.1,
       ba (feedR (feedA ((byl s).take i)).2.2.1 (((byl s).take i).drop (feedA ((byl s).take i)).2.2.1) (feedA ((byl s).take i)).2.2.2 (((byl s).drop i).take q)).2.1.2.1,
       (feedR (feedA ((byl s).take i)).2.2.1 (((byl s).take i).drop (feedA ((byl s).take i)).2.2.1) (feedA ((byl s).take i)).2.2.2 (((byl s).drop i).take q)).2.1.2.2,
       (feedR (feedA ((byl s).take i)).2.2.1 (((byl s).take i).drop (feedA ((byl s).take i)).2.2.1) (feedA ((byl s).take i)).2.2.2 (((byl s).drop i).take q)).2.2.1,
       (feedR (feedA ((byl s).take i)).2.2.1 (((byl s).take i).drop (feedA ((byl s).take i)).2.2.1) (feedA ((byl s).take i)).2.2.2 (((byl s).drop i).take q)).2.2.2) := by
     unfold lex_Feed.f
     have e1 : ∀ l, byl (ba l) = l := fun l => ba_list l
     rw [if_pos ⟨by rw [ba_size, List.length_drop]; omega, by rw [ba_size]; omega⟩, e1, e1, Int.toNat_natCast]
    rw [hfe, Option.bind_some]
    rw [htk] at a1 a2
    have hq2 : i + q ≤ s.size ∨ s.size < i + q := by omega
    obtain ⟨i2, hi2, hi3⟩ : ∃ i2, (byl s).take (i + q) = (byl s).take i2 ∧ i2 = min s.size (i + q) := ⟨min s.size (i + q), by
     rcases hq2 with h | h
     ·rw [Nat.min_eq_right h]
     ·rw [Nat.min_eq_left (by omega), List.take_of_length_le (by omega), List.take_of_length_le (by omega)], rfl⟩
    rw [hi2] at a1 a2
    have hpz : (ba (((byl s).drop i).take q)).size = i2 - i := by rw [ba_size, List.length_take, List.length_drop]; omega
    cases hF : (feedA ((byl s).take i2)).2.1 with
    | none =>
     obtain ⟨new, b1, b2⟩ := a1 hF
     rw [b1]
     dsimp only
     have hi2l : ((byl s).take i2).length ≤ 4000 := by rw [List.length_take]; omega
     obtain ⟨g1, g2, g3, g4⟩ := feedA_facts ((byl s).take i2) hi2l
     have hnl : (toksL (feedA ((byl s).take i)).1).length + new.length ≤ 4001 := by
      have := congrArg List.length b2
      rw [List.length_append, List.length_map] at this
      omega
     rw [if_pos rfl, if_pos (by rw [List.length_map, List.length_map]; omega)]
     have hout : (toksL (feedA ((byl s).take i)).1).map (tokS 0) ++ new.map (tokS (feedA ((byl s).take i)).2.2.1) = (toksL (feedA ((byl s).take i2)).1).map (tokS 0) := by
      rw [b2, List.map_append, tok_shift]
     rw [hout, hpz, w64s (a := (i : Int) + ((i2 - i : Nat) : Int)) (by omega) (by omega), w64s (a := n + 1) (by omega) (by omega)]
     have e2 : (i : Int) + ((i2 - i : Nat) : Int) = ((i2 : Nat) : Int) := by omega
     rw [e2]
     exact ih K i2 (n + 1) (by omega) (by omega) (by omega) (by omega) (by omega) hF
    | some e =>
     rw [a2 e hF]
     dsimp only
     have hall : (feedA (byl s)).2.1 = some e := by
      have := feedA_more ((byl s).take i2) ((byl s).drop i2) e hF
      rwa [List.take_append_drop] at this
     have hee : e.1 ≠ 0 := by
      obtain ⟨_, _, c3, _, _, _⟩ := feed_items ((byl s).length + 1) (byl s) 0 0 (by omega)
      exact items_err true _ _ _ _ e (by rw [c3]; exact hall)
     rw [if_neg hee]
     unfold fedV
     rw [hall]
   rw [PV.mjolnerlaw04_fed.l0, if_pos (by omega)]
   split
   ·first | exact key _ | (rw [if_pos h3]; exact key _)
   ·exact key _
  ·exact ih K i n (by omega) h2 h3 h4 (by omega) h6
theorem fed_any (s : ByteArray) (hs : s.size ≤ 400) (cuts : List Int) (K : Nat) (hK : 802 ≤ K) : PV.mjolnerlaw04_fed.f K s cuts = some (fedV s) := by
 have := fed_loop s cuts hs s.size K 0 0 (by omega) (by omega) (by omega) (by omega) (by omega) rfl
 exact this
theorem lex_len (s : List UInt8) (hs : s.length ≤ 4000) : (lexR s).1.length ≤ 4001 := by
 unfold lexR
 rw [if_neg (by omega)]
 cases (itemsL false (s.length + 1) s 0 0).2 with
 | none =>
  have h1 := toks_le (itemsL false (s.length + 1) s 0 0).1
  have h2 := items_le false (s.length + 1) s 0 0
  show (toksL _).length ≤ _
  omega
 | some p => exact Nat.zero_le _
end Go.Proofs.YtniihjhlkpjnoaaDoor.Given