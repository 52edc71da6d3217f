/- LexVeils: the plain law. -/
import Derived.Test.YtniihjhlkpjnoaaDoorPVx23
import Derived.Test.YtniihjhlkpjnoaaDoorLVal
import Derived.Test.YtniihjhlkpjnoaaDoorLEx
import Derived.Test.YtniihjhlkpjnoaaDoorLSan
set_option linter.unusedVariables false
set_option linter.unusedSimpArgs false
namespace Go.Proofs.YtniihjhlkpjnoaaDoor.Given
open Go.RowKit Go.Proofs.YtniihjhlkpjnoaaDoorW.PrintWords Go.Proofs.YtniihjhlkpjnoaaDoorW.PrintLast Go.Proofs.YtniihjhlkpjnoaaDoorW.PrintMore
def nls (s : ByteArray) : List Bool := (byl s).map fun c => decide (c = 10)
theorem bt_byl (s : ByteArray) (i : Nat) (h : i < (byl s).length) : bt s (i : Int) = (((byl s)[i]).toNat : Int) := by
 have h' : i < s.size := by rw [← byl_length]; exact h
 unfold bt
 rw [dif_pos (by rw [Int.toNat_natCast]; exact h')]
 rfl
theorem bt_nl (s t : ByteArray) (h : nls s = nls t) (i : Nat) (hi : i < s.size) : (bt s (i : Int) = 10) ↔ (bt t (i : Int) = 10) := by
 have hl : (byl s).length = (byl t).length := by simpa [nls] using congrArg List.length h
 have h1 : i < (byl s).length := by rw [byl_length]; exact hi
 have h2 : i < (byl t).length := by omega
 rw [bt_byl s i h1, bt_byl t i h2]
 have he : decide ((byl s)[i] = 10) = decide ((byl t)[i] = 10) := by
  have := congrArg (fun l => l[i]?) h
  unfold nls at this
  simp only [List.getElem?_map, List.getElem?_eq_getElem h1, List.getElem?_eq_getElem h2, Option.map_some, Option.some.injEq] at this
  exact this
 have key : ∀ c : UInt8, ((c.toNat : Int) = 10) ↔ c = 10 := fun c => by
  constructor
  ·intro h
   exact UInt8.toNat_inj.1 (show c.toNat = 10 by omega)
  ·intro h
   rw [h]
   rfl
 rw [key, key]
 have h3 := decide_eq_decide.1 he
 exact h3
theorem last_loop (s t : ByteArray) (h : nls s = nls t) (hz : s.size = t.size) (hs : s.size ≤ 10000000) : ∀ (rem K i : Nat), i ≤ rem → i ≤ s.size → rem + 1 ≤ K →
  ∃ r, PV.bytealg_LastIndexByteString.l0 K s 10 ((i : Int) - 1) = some r ∧ PV.bytealg_LastIndexByteString.l0 K t 10 ((i : Int) - 1) = some r := by
 intro rem
 induction rem with
 | zero =>
  intro K i h1 h2 h3
  obtain ⟨K, rfl⟩ : ∃ K', K = K' + 1 := ⟨K - 1, by omega⟩
  rw [PV.bytealg_LastIndexByteString.l0, PV.bytealg_LastIndexByteString.l0, if_neg (by omega), if_neg (by omega)]
  exact ⟨_, rfl, rfl⟩
 | succ rem ih =>
  intro K i h1 h2 h3
  obtain ⟨K, rfl⟩ : ∃ K', K = K' + 1 := ⟨K - 1, by omega⟩
  rw [PV.bytealg_LastIndexByteString.l0, PV.bytealg_LastIndexByteString.l0]
  by_cases hi : i = 0
  ·rw [if_neg (by omega), if_neg (by omega)]
   exact ⟨_, rfl, rfl⟩
  ·obtain ⟨j, rfl⟩ : ∃ j, i = j + 1 := ⟨i - 1, by omega⟩
   rw [show ((j + 1 : Nat) : Int) - 1 = (j : Int) by omega]
   have hb := bt_nl s t h j (by omega)
   have q1 : (j : Int) ≥ 0 := by omega
   have q2 : (0 : Int) ≤ (j : Int) := by omega
   have q3 : (j : Int) < (s.size : Int) := by omega
   have q4 : (j : Int) < (t.size : Int) := by omega
   rw [if_pos q1, if_pos q2, if_pos q3, if_pos q1, if_pos q2, if_pos q4]
   by_cases hc : bt s (j : Int) = 10
   ·rw [if_pos hc, if_pos (hb.1 hc)]
    exact ⟨_, rfl, rfl⟩
   ·rw [if_neg hc, if_neg (fun h => hc (hb.2 h)), w64b (by omega) (by omega)]
    exact ih K j (by omega) (by omega) (by omega)
theorem place_same (s t : ByteArray) (h : nls s = nls t) (hs : s.size ≤ 1048576) (i : Int) (K : Nat) (hK : 2000000 ≤ K) : ∃ r, PV.text_Place.f (K + 1) s i = some r ∧ PV.text_Place.f (K + 1) t i = some r := by
 have hz : s.size = t.size := by
  have := congrArg List.length h
  unfold nls at this
  rw [List.length_map, List.length_map, byl_length, byl_length] at this
  exact this
 have hj : ∀ x : Bool, (x = false → 0 ≤ i ∧ i ≤ (s.size : Int)) → ∃ r, PV.text_Place.j0 (K + 1) s i x = some r ∧ PV.text_Place.j0 (K + 1) t i x = some r := by
  intro x hx
  rw [PV.text_Place.j0, PV.text_Place.j0]
  cases x with
  | true => exact ⟨_, rfl, rfl⟩
  | false =>
   obtain ⟨h0, h1⟩ := hx rfl
   obtain ⟨n, rfl⟩ : ∃ n : Nat, i = (n : Int) := ⟨i.toNat, by omega⟩
   have q1 : ¬ (false = true) := by decide
   have q2 : (n : Int) ≤ (t.size : Int) := by omega
   rw [if_neg q1, if_pos h0, if_pos h1, if_neg q1, if_pos h0, if_pos q2, Int.toNat_natCast]
   have hex : ∀ u : ByteArray, byl (u.extract 0 n) = (byl u).take n := fun u => by
    show (u.extract 0 n).data.toList = u.data.toList.take n
    rw [ByteArray.data_extract, Array.toList_extract]
    simp
   have hn2 : nls (s.extract 0 n) = nls (t.extract 0 n) := by
    unfold nls at h ⊢
    rw [hex, hex, List.map_take, List.map_take, h]
   have hsz : ∀ u : ByteArray, u.size = s.size → (u.extract 0 n).size = n := fun u hu => by
    rw [← byl_length, hex, List.length_take, byl_length]
    omega
   have hcnt : ∀ u : ByteArray, strings_Count.f u ⟨#[10]⟩ = some (((nls u).count true : Nat) : Int) := fun u => by
    unfold strings_Count.f
    rw [if_pos (show (⟨#[10]⟩ : ByteArray).size = 1 from rfl)]
    show some (((byl u).count 10 : Nat) : Int) = _
    unfold nls
    congr 2
    rw [List.count, List.count, List.countP_map]
    congr 1
    funext c
    show (c == 10) = (decide (c = 10) == true)
    by_cases hc : c = 10
    ·rw [hc]; rfl
    ·rw [decide_eq_false hc, beq_eq_false_iff_ne.2 hc]; rfl
   rw [hcnt, hcnt, hn2, Option.bind_some, Option.bind_some]
   unfold PV.strings_LastIndexByte.f PV.bytealg_LastIndexByteString.f
   rw [hsz s rfl, hsz t hz.symm, w64b (by omega) (by omega)]
   obtain ⟨r, r1, r2⟩ := last_loop (s.extract 0 n) (t.extract 0 n) hn2 (by rw [hsz s rfl, hsz t hz.symm]) (by rw [hsz s rfl]; omega) n K n (Nat.le_refl _) (by rw [hsz s rfl]; exact Nat.le_refl _) (by omega)
   rw [r1, r2]
   exact ⟨_, rfl, rfl⟩
 unfold PV.text_Place.f
 by_cases h0 : i < 0
 ·rw [if_pos h0, if_pos h0]
  exact hj true (fun h => by cases h)
 ·rw [if_neg h0, if_neg h0, ← hz]
  refine hj _ fun h => ?_
  have := of_decide_eq_false h
  omega
theorem rd40_kind (xs : List (Nat × Itm)) (hk : ∀ x ∈ xs, x.2.kind ≠ 0) : ∀ (f n : Nat), ∀ y ∈ spansF xs f n, y.1 ≠ 2 := by
 have hg : ∀ f n, ∀ y ∈ gapS f n, y.1 ≠ 2 := by
  intro f n y hy
  unfold gapS at hy
  split at hy
  ·rw [List.mem_singleton.1 hy]
   show (1 : Int) ≠ 2
   decide
  ·cases hy
 induction xs with
 | nil => exact hg
 | cons x xs ih =>
  intro f n y hy
  rw [spansF] at hy
  rcases List.mem_append.1 hy with hy | hy
  ·exact hg _ _ y hy
  ·rcases List.mem_cons.1 hy with rfl | hy
   ·rw [if_neg (hk x List.mem_cons_self)]
    show (3 : Int) ≠ 2
    decide
   ·exact ih (fun z hz => hk z (List.mem_cons_of_mem _ hz)) _ _ y hy
theorem notes_loop (a0 : ByteArray) (at' : Int) (t : ByteArray) (L : List PV.S40) (hL : L.length ≤ 10000000) (hk : ∀ y ∈ L, y.f0 ≠ 2) (hn : nls a0 = nls t) (hs : a0.size ≤ 1048576) : ∀ (rem K i : Nat), L.length - i ≤ rem → rem + 2000002 ≤ K →
  PV.mjolnerlaw04_LexVeils.l0 K a0 at' true t L (i : Int) = some true := by
 intro rem
 have hend : ∀ (K i : Nat), L.length ≤ i → 2000002 ≤ K → PV.mjolnerlaw04_LexVeils.l0 K a0 at' true t L (i : Int) = some true := by
  intro K i h1 h2
  obtain ⟨K, rfl⟩ : ∃ K', K = K' + 1 + 1 := ⟨K - 2, by omega⟩
  obtain ⟨r, r1, r2⟩ := place_same a0 t hn hs at' K (by omega)
  rw [PV.mjolnerlaw04_LexVeils.l0, if_neg (by omega), r1, r2, Option.bind_some, Option.bind_some, if_pos rfl, if_pos rfl, if_pos rfl, beq_self_eq_true]
 induction rem with
 | zero => exact fun K i h1 h2 => hend K i (by omega) (by omega)
 | succ rem ih =>
  intro K i h1 h2
  by_cases hi : i < L.length
  ·obtain ⟨K, rfl⟩ : ∃ K', K = K' + 1 := ⟨K - 1, by omega⟩
   obtain ⟨hx, _, _⟩ := rd40_at (List.drop_eq_getElem_cons hi)
   rw [PV.mjolnerlaw04_LexVeils.l0, if_pos (by omega), if_pos (by omega), hx, if_neg (hk _ (List.getElem_mem hi)), w64b (by omega) (by omega)]
   exact ih K (i + 1) (by omega) (by omega)
  ·exact hend K i (by omega) (by omega)
theorem veils_law (k : Nat) (hk : 8000000 ≤ k) (a0 : ByteArray) (a1 : Int) : PV.mjolnerlaw04_LexVeils.f k a0 a1 = some true := by
 obtain ⟨K, rfl⟩ : ∃ K, k = K + 1 + 1 := ⟨k - 2, by omega⟩
 unfold PV.mjolnerlaw04_LexVeils.f
 have hlex : ∀ s : ByteArray, lex_Lex.f s = some ((lexR (byl s)).1.map (tokS 0), (lexR (byl s)).2.1, ((lexR (byl s)).2.2 : Int)) := fun _ => rfl
 have hspans : ∀ s : ByteArray, lex_Spans.f s = some ((spansR (byl s)).1.map spanS, (spansR (byl s)).2.1, ((spansR (byl s)).2.2 : Int)) := fun _ => rfl
 rw [sane_any _ (by omega), Option.bind_some, show lex_Veil.f a0 = some (ba (veilR (byl a0)).1, (veilR (byl a0)).2.1, ((veilR (byl a0)).2.2 : Int)) from rfl, Option.bind_some, hlex, Option.bind_some]
 have hsz := byl_length a0
 rcases read_cases (byl a0) with ⟨e, p, he, h1, _, h3⟩ | ⟨hl, xs, hr, hx, h1, _, h3⟩
 ·rw [h1, h3]
  dsimp only
  have : (e != 0) = true := by simp [he]
  rw [if_pos rfl, this, PV.mjolnerlaw04_LexVeils.j0, if_pos rfl, if_pos rfl, if_pos rfl, ByteArray.toList_eq]
  rfl
 ·rw [h1, h3]
  dsimp only
  obtain ⟨v1, v2, v3, v4⟩ := rd_veil hr
  rw [tk_toks] at v4
  obtain ⟨ys, y1, y2, y3, y4⟩ := read_of v4 (by omega)
  have hky : ∀ y ∈ ys, y.2.kind ≠ 0 := by
   intro y hy
   have : tk y ∈ (toksL xs).map tk := by rw [← y1]; exact List.mem_map_of_mem hy
   obtain ⟨z, hz, e⟩ := List.mem_map.1 this
   have hz := (List.mem_filter.1 (show z ∈ xs.filter isTok from hz)).2
   have hz : z.2.kind ≠ 0 := by simpa [isTok] using hz
   have e2 : (core z.2).1 = (core y.2).1 := by rw [show core z.2 = core y.2 from congrArg Prod.snd e]
   have e2 : z.2.kind = y.2.kind := e2
   omega
  have hty : toksL ys = ys := by
   unfold toksL
   rw [List.filter_eq_self]
   intro y hy
   simp [isTok, hky y hy]
  have hsame : (toksL ys).map (tokS 0) = (toksL xs).map (tokS 0) := by
   have key : ∀ p q : Nat × Itm, tk p = tk q → tokS 0 p = tokS 0 q := by
    rintro ⟨p, x⟩ ⟨q, y⟩ h
    have h1 : p = q := congrArg Prod.fst h
    have h2 : core x = core y := congrArg Prod.snd h
    have e1 : x.kind = y.kind := congrArg (fun z => z.1) h2
    have e2 : x.text = y.text := congrArg (fun z => z.2.1) h2
    have e3 : x.n = y.n := congrArg (fun z => z.2.2.1) h2
    have e4 : x.len = y.len := congrArg (fun z => z.2.2.2.1) h2
    unfold tokS
    rw [h1, e1, e2, e3, e4]
   rw [hty]
   have gen : ∀ A B : List (Nat × Itm), A.map tk = B.map tk → A.map (tokS 0) = B.map (tokS 0) := by
    intro A
    induction A with
    | nil =>
     intro B h
     cases B with
     | nil => rfl
     | cons b B => cases h
    | cons a A ih =>
     intro B h
     cases B with
     | nil => cases h
     | cons b B =>
      rw [List.map_cons, List.map_cons] at h
      obtain ⟨g1, g2⟩ := List.cons.inj h
      rw [List.map_cons, List.map_cons, key a b g1, ih B g2]
   exact gen _ _ y1
  have ht : byl (ba (vl (byl a0) 0 (xs.map tk))) = vl (byl a0) 0 (xs.map tk) := ba_list _
  rw [if_pos rfl, show ((0 : Int) != 0) = false from rfl, PV.mjolnerlaw04_LexVeils.j0, if_neg (by decide), hlex, Option.bind_some, hspans, Option.bind_some, ht, y3, y4]
  dsimp only
  have htl := toks_le xs
  have hsl := spansF_len ys 0 (vl (byl a0) 0 (xs.map tk)).length
  rw [if_pos rfl, if_pos rfl, if_pos (by rw [ba_size, v2, hsz]), hsame, exact_same' _ (by rw [List.length_map]; omega) _ (by rw [List.length_map]; omega), Option.bind_some, PV.mjolnerlaw04_LexVeils.j1, if_neg (by decide)]
  refine notes_loop a0 a1 _ _ (by rw [List.length_map]; omega) ?_ ?_ (by omega) ((spansF ys 0 (vl (byl a0) 0 (xs.map tk)).length).map spanS).length K 0 (by omega) (by rw [List.length_map]; omega)
  ·intro y hy
   obtain ⟨z, hz, rfl⟩ := List.mem_map.1 hy
   exact rd40_kind ys hky _ _ z hz
  ·unfold nls
   rw [ht]
   exact v3.symm
theorem lexVeils_ex (a0 : ByteArray) (a1 : Int) (h0 : a0.size ≤ 1048576) : ∃ k, PV.mjolnerlaw04_LexVeils.f k a0 a1 = some true := ⟨8000000, veils_law 8000000 (Nat.le_refl _) a0 a1⟩
end Go.Proofs.YtniihjhlkpjnoaaDoor.Given