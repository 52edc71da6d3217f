/- What Diff returns, and the plain law behind TextDiffs: for all texts, what the printed function computes is true. -/
import Derived.Test.YtdcemnmbfblmiaaDoorPTx36
import Derived.Test.YtdcemnmbfblmiaaDoorLEdit
set_option linter.unusedVariables false
set_option linter.unusedSimpArgs false
namespace Go.Proofs.YtdcemnmbfblmiaaDoor.PT
open Go.RowKit Go.Proofs.YtdcemnmbfblmiaaDoor.Given Go.Proofs.YtdcemnmbfblmiaaDoorW.PrintWords Go.Proofs.YtdcemnmbfblmiaaDoorW.PrintLast Go.Proofs.YtdcemnmbfblmiaaDoorW.PrintMore

theorem bt_get (s : ByteArray) (i : Nat) (h : i < s.size) : bt s i = ((s.data.toList.getD i 0).toNat : Int) := by
  unfold bt
  simp [h, List.getD_eq_getElem?_getD, ByteArray.getElem_eq_getElem_data]
theorem byte_inj {x y : UInt8} : ((x.toNat : Int) = (y.toNat : Int)) ↔ x = y := by
  constructor
  · intro h; exact UInt8.toNat_inj.1 (by omega)
  · rintro rfl; rfl
/-- what Diff finds: h bytes at the beginning are the same, t at the end -/
structure DiffOf (A B : List UInt8) (h t : Nat) : Prop where
  ra : h + t ≤ A.length
  rb : h + t ≤ B.length
  head : ∀ i, i < h → A.getD i 0 = B.getD i 0
  tail : ∀ i, i < t → A.getD (A.length - 1 - i) 0 = B.getD (B.length - 1 - i) 0
  stop : h = min A.length B.length ∨ A.getD h 0 ≠ B.getD h 0
  ends : h + t = min A.length B.length ∨ A.getD (A.length - 1 - t) 0 ≠ B.getD (B.length - 1 - t) 0
theorem diff_tail (a b : ByteArray) (ha : a.size ≤ 1048576) (hb : b.size ≤ 1048576) (h : Nat) (hm : h ≤ min a.size b.size) (hhead : ∀ i, i < h → a.data.toList.getD i 0 = b.data.toList.getD i 0)
    (hstop : h = min a.size b.size ∨ a.data.toList.getD h 0 ≠ b.data.toList.getD h 0) : ∀ (d t k : Nat), h + t + d = min a.size b.size → d < k → (∀ i, i < t → a.data.toList.getD (a.size - 1 - i) 0 = b.data.toList.getD (b.size - 1 - i) 0) →
    ∃ t', DiffOf a.data.toList b.data.toList h t' ∧ text_Diff.l1 k a b ((min a.size b.size : Nat) : Int) (h : Int) (t : Int) = some ((h : Int), ((a.size - h - t' : Nat) : Int), b.extract h (b.size - t')) := by
  have hla := len_list a
  have hlb := len_list b
  intro d
  induction d with
  | zero =>
    intro t k ht hk htail
    obtain ⟨k, rfl⟩ : ∃ m, k = m + 1 := ⟨k - 1, by omega⟩
    refine ⟨t, ⟨by omega, by omega, hhead, by rw [hla, hlb]; exact htail, by rw [hla, hlb]; exact hstop, .inl (by rw [hla, hlb]; omega)⟩, ?_⟩
    rw [text_Diff.l1, if_neg (by rw [IntWalk.wrap64_in _ (by omega)]; omega), if_pos (by omega), show wrap64 ((b.size : Int) - t) = ((b.size - t : Nat) : Int) by rw [IntWalk.wrap64_in _ (by omega)]; omega, if_pos (by omega), if_pos (by omega),
      Int.toNat_natCast, Int.toNat_natCast, IntWalk.wrap64_in ((a.size : Int) - h) (by omega), IntWalk.wrap64_in _ (by omega)]
    congr 3
    omega
  | succ d ih =>
    intro t k ht hk htail
    obtain ⟨k, rfl⟩ : ∃ m, k = m + 1 := ⟨k - 1, by omega⟩
    have e1 : wrap64 (wrap64 ((a.size : Int) - 1) - t) = ((a.size - 1 - t : Nat) : Int) := by rw [IntWalk.wrap64_in ((a.size : Int) - 1) (by omega), IntWalk.wrap64_in _ (by omega)]; omega
    have e2 : wrap64 (wrap64 ((b.size : Int) - 1) - t) = ((b.size - 1 - t : Nat) : Int) := by rw [IntWalk.wrap64_in ((b.size : Int) - 1) (by omega), IntWalk.wrap64_in _ (by omega)]; omega
    rw [text_Diff.l1, if_pos (by rw [IntWalk.wrap64_in _ (by omega)]; omega), e1, e2, if_pos (by omega), if_pos (by omega), if_pos (by omega), if_pos (by omega), bt_get a _ (by omega), bt_get b _ (by omega)]
    by_cases hx : a.data.toList.getD (a.size - 1 - t) 0 = b.data.toList.getD (b.size - 1 - t) 0
    · rw [if_pos (byte_inj.2 hx), show wrap64 ((t : Int) + 1) = ((t + 1 : Nat) : Int) by rw [IntWalk.wrap64_in _ (by omega)]; omega]
      refine ih (t + 1) k (by omega) (by omega) (fun i hi => ?_)
      rcases Nat.lt_or_ge i t with h1 | h1
      · exact htail i h1
      · rw [show i = t by omega]
        exact hx
    · rw [if_neg (fun e => hx (byte_inj.1 e)), if_pos (by omega), show wrap64 ((b.size : Int) - t) = ((b.size - t : Nat) : Int) by rw [IntWalk.wrap64_in _ (by omega)]; omega, if_pos (by omega), if_pos (by omega),
        Int.toNat_natCast, Int.toNat_natCast, IntWalk.wrap64_in ((a.size : Int) - h) (by omega), IntWalk.wrap64_in _ (by omega)]
      refine ⟨t, ⟨by omega, by omega, hhead, by rw [hla, hlb]; exact htail, by rw [hla, hlb]; exact hstop, .inr (by rw [hla, hlb]; exact hx)⟩, ?_⟩
      congr 3
      omega
theorem diff_head (a b : ByteArray) (ha : a.size ≤ 1048576) (hb : b.size ≤ 1048576) : ∀ (d h k : Nat), h + d = min a.size b.size → d + min a.size b.size + 2 < k → (∀ i, i < h → a.data.toList.getD i 0 = b.data.toList.getD i 0) →
    ∃ h' t', DiffOf a.data.toList b.data.toList h' t' ∧ text_Diff.l0 k a b ((min a.size b.size : Nat) : Int) (h : Int) = some ((h' : Int), ((a.size - h' - t' : Nat) : Int), b.extract h' (b.size - t')) := by
  have hla := len_list a
  have hlb := len_list b
  intro d
  induction d with
  | zero =>
    intro h k hh hk hhead
    obtain ⟨k, rfl⟩ : ∃ m, k = m + 1 + 1 := ⟨k - 2, by omega⟩
    obtain ⟨t', h1, h2⟩ := diff_tail a b ha hb h (by omega) hhead (.inl (by omega)) (min a.size b.size - h) 0 k (by omega) (by omega) (fun i hi => absurd hi (by omega))
    refine ⟨h, t', h1, ?_⟩
    rw [text_Diff.l0, if_neg (by omega), text_Diff.j1]
    exact h2
  | succ d ih =>
    intro h k hh hk hhead
    obtain ⟨k, rfl⟩ : ∃ m, k = m + 1 + 1 := ⟨k - 2, by omega⟩
    rw [text_Diff.l0, if_pos (by omega), if_pos (by omega), if_pos (by omega), if_pos (by omega), bt_get a _ (by omega), bt_get b _ (by omega)]
    by_cases hx : a.data.toList.getD h 0 = b.data.toList.getD h 0
    · rw [if_pos (byte_inj.2 hx), show wrap64 ((h : Int) + 1) = ((h + 1 : Nat) : Int) by rw [IntWalk.wrap64_in _ (by omega)]; omega]
      refine ih (h + 1) (k + 1) (by omega) (by omega) (fun i hi => ?_)
      rcases Nat.lt_or_ge i h with h1 | h1
      · exact hhead i h1
      · rw [show i = h by omega]
        exact hx
    · obtain ⟨t', h1, h2⟩ := diff_tail a b ha hb h (by omega) hhead (.inr hx) (min a.size b.size - h) 0 k (by omega) (by omega) (fun i hi => absurd hi (by omega))
      refine ⟨h, t', h1, ?_⟩
      rw [if_neg (fun e => hx (byte_inj.1 e)), text_Diff.j1]
      exact h2
theorem diff_f (a b : ByteArray) (ha : a.size ≤ 1048576) (hb : b.size ≤ 1048576) (k : Nat) (hk : 2 * a.size + 3 ≤ k) :
    ∃ h t, DiffOf a.data.toList b.data.toList h t ∧ text_Diff.f k a b = some ((h : Int), ((a.size - h - t : Nat) : Int), b.extract h (b.size - t)) := by
  have e : mn (a.size : Int) (b.size : Int) = ((min a.size b.size : Nat) : Int) := by unfold mn; split <;> omega
  unfold text_Diff.f
  rw [e]
  exact diff_head a b ha hb (min a.size b.size) 0 k (by omega) (by omega) (fun i hi => absurd hi (by omega))
theorem getD_ext {A B : List UInt8} (h : A.length = B.length) (g : ∀ i, i < A.length → A.getD i 0 = B.getD i 0) : A = B := by
  apply List.ext_getElem h
  intro i h1 h2
  have := g i h1
  rw [List.getD_eq_getElem?_getD, List.getD_eq_getElem?_getD, List.getElem?_eq_getElem h1, List.getElem?_eq_getElem h2] at this
  exact this
theorem DiffOf.same {A B : List UInt8} {h t : Nat} (d : DiffOf A B h t) : A.take h ++ ((B.drop h).take (B.length - t - h) ++ A.drop (A.length - t)) = B := by
  have h1 := d.ra
  have h2 := d.rb
  have e1 : A.take h = B.take h := by
    apply getD_ext
    · rw [List.length_take, List.length_take]; omega
    · intro i hi
      rw [List.length_take] at hi
      have := d.head i (by omega)
      rw [List.getD_eq_getElem?_getD, List.getD_eq_getElem?_getD] at this ⊢
      rw [List.getElem?_take_of_lt (by omega), List.getElem?_take_of_lt (by omega)]
      exact this
  have e2 : A.drop (A.length - t) = B.drop (B.length - t) := by
    apply getD_ext
    · rw [List.length_drop, List.length_drop]; omega
    · intro i hi
      rw [List.length_drop] at hi
      have := d.tail (t - 1 - i) (by omega)
      rw [List.getD_eq_getElem?_getD, List.getD_eq_getElem?_getD] at this ⊢
      rw [List.getElem?_drop, List.getElem?_drop]
      rw [show A.length - 1 - (t - 1 - i) = A.length - t + i by omega, show B.length - 1 - (t - 1 - i) = B.length - t + i by omega] at this
      exact this
  rw [e1, e2, show B.length - t = h + (B.length - t - h) by omega, ← List.drop_drop, show h + (B.length - t - h) - h = B.length - t - h by omega, List.take_append_drop, List.take_append_drop]
theorem edit_of (a b : ByteArray) {h t : Nat} (d : DiffOf a.data.toList b.data.toList h t) : edited a h (a.size - h - t) (b.extract h (b.size - t)) = b := by
  have h1 := d.ra
  have h2 := d.rb
  have hla := len_list a
  have hlb := len_list b
  have := d.same
  apply ext_list
  rw [edited_list _ _ _ _ (by omega), ex_list, show h + (a.size - h - t) = a.data.toList.length - t by omega, ← hlb]
  exact this
theorem TextDiffs_any (a b : ByteArray) (ha : a.size ≤ 1048576) (hb : b.size ≤ 1048576) (k : Nat) (hk : 2 * a.size + 10 ≤ k) : mjolnerlaw03_TextDiffs.f k a b = some true := by
  obtain ⟨k, rfl⟩ : ∃ m, k = m + 1 + 1 := ⟨k - 2, by omega⟩
  have hla := len_list a
  have hlb := len_list b
  obtain ⟨h, t, hd, hf⟩ := diff_f a b ha hb (k + 1) (by omega)
  have r1 := hd.ra
  have r2 := hd.rb
  have hx : (b.extract h (b.size - t)).size = b.size - t - h := by rw [ex_size _ _ _ (by omega)]
  unfold mjolnerlaw03_TextDiffs.f mjolnerlaw03_sane.f
  simp only [Option.bind_some]
  rw [if_neg (by omega), show decide ((b.size : Int) > 1048576) = false from decide_eq_false (by omega), mjolnerlaw03_TextDiffs.j0, if_neg (by decide), hf]
  simp only [Option.bind_some]
  rw [apply_f a h _ _ (by omega) (by omega) (by omega) (by omega) (by omega), edit_of a b hd]
  simp only [Option.bind_some, if_true]
  -- the same texts exactly if nothing changes
  have hsame : a.data.toList = b.data.toList ↔ (a.size - h - t = 0 ∧ b.size - t - h = 0) := by
    constructor
    · intro e
      have hs : a.size = b.size := by rw [← hla, ← hlb, e]
      have := hd.stop.resolve_right (by rw [e]; exact fun h => h rfl)
      rw [e] at this
      omega
    · rintro ⟨e1, e2⟩
      apply getD_ext (by omega)
      intro i hi
      rcases Nat.lt_or_ge i h with q | q
      · exact hd.head i q
      · have := hd.tail (a.data.toList.length - 1 - i) (by omega)
        rw [show a.data.toList.length - 1 - (a.data.toList.length - 1 - i) = i by omega, show b.data.toList.length - 1 - (a.data.toList.length - 1 - i) = i by omega] at this
        exact this
  have hput : (b.extract h (b.size - t)).toList = ([] : List UInt8) ↔ b.size - t - h = 0 := by
    rw [ByteArray.toList_eq, ← List.length_eq_zero_iff, len_list, hx]
  have hj : ∀ x : Bool, x = false → mjolnerlaw03_TextDiffs.j1 (k + 1) a true x (h : Int) ((a.size - h - t : Nat) : Int) (b.extract h (b.size - t)) = some true := by
    rintro x rfl
    rw [mjolnerlaw03_TextDiffs.j1, if_neg (by decide)]
    by_cases q1 : ((a.size - h - t : Nat) : Int) > 0
    · rw [if_pos q1]
      by_cases q2 : (b.extract h (b.size - t)).toList = ([] : List UInt8)
      · rw [if_pos q2]
      · rw [if_neg q2]
        have q3 : b.size - t - h ≠ 0 := fun e => q2 (hput.2 e)
        have s1 := hd.stop.resolve_left (by omega)
        have s2 := hd.ends.resolve_left (by omega)
        have hbt : ∀ i : Nat, i < b.size - t - h → bt (b.extract h (b.size - t)) (i : Int) = ((b.data.toList.getD (h + i) 0).toNat : Int) := by
          intro i hi
          rw [bt_get _ _ (by omega), ex_list, List.getD_eq_getElem?_getD, List.getD_eq_getElem?_getD, List.getElem?_take_of_lt (by omega), List.getElem?_drop]
        have hb0 := hbt 0 (by omega)
        have hb1 := hbt (b.size - t - h - 1) (by omega)
        rw [Nat.add_zero] at hb0
        have e1 : wrap64 (wrap64 ((h : Int) + ((a.size - h - t : Nat) : Int)) - 1) = ((a.size - 1 - t : Nat) : Int) := by rw [IntWalk.wrap64_in ((h : Int) + _) (by omega), IntWalk.wrap64_in _ (by omega)]; omega
        have e2 : wrap64 (((b.extract h (b.size - t)).size : Int) - 1) = ((b.size - t - h - 1 : Nat) : Int) := by rw [hx, IntWalk.wrap64_in _ (by omega)]; omega
        rw [if_pos rfl, if_pos (by omega), if_pos (by omega), if_pos (by omega), bt_get a h (by omega), show bt (b.extract h (b.size - t)) 0 = _ from hb0, if_neg (fun e => s1 (byte_inj.1 e)), e1, e2,
          if_pos (by omega), if_pos (by omega), if_pos (by omega), if_pos (by omega), bt_get a _ (by omega), hb1, show h + (b.size - t - h - 1) = b.data.toList.length - 1 - t by omega, ← hla]
        have : ¬ ((a.data.toList.getD (a.data.toList.length - 1 - t) 0).toNat : Int) = ((b.data.toList.getD (b.data.toList.length - 1 - t) 0).toNat : Int) := fun e => s2 (byte_inj.1 e)
        rw [bne_iff_ne.2 this]
    · rw [if_neg q1]
  by_cases q1 : ((a.size - h - t : Nat) : Int) = 0
  · rw [if_pos q1]
    apply hj
    rw [ByteArray.toList_eq a, ByteArray.toList_eq b]
    by_cases q2 : b.size - t - h = 0
    · rw [hput.2 q2, hsame.2 ⟨by omega, q2⟩]
      simp
    · rw [beq_eq_false_iff_ne.2 (fun e => q2 (hput.1 e)), beq_eq_false_iff_ne.2 (fun e => q2 (hsame.1 e).2)]
      rfl
  · rw [if_neg q1]
    apply hj
    rw [ByteArray.toList_eq a, ByteArray.toList_eq b, beq_eq_false_iff_ne.2 (fun e => q1 (by have := (hsame.1 e).1; omega))]
    rfl
theorem TextDiffs_law (a b : ByteArray) (ha : a.size ≤ 1048576) (hb : b.size ≤ 1048576) : ∃ k, mjolnerlaw03_TextDiffs.f k a b = some true := ⟨_, TextDiffs_any a b ha hb _ (Nat.le_refl _)⟩
end Go.Proofs.YtdcemnmbfblmiaaDoor.PT
