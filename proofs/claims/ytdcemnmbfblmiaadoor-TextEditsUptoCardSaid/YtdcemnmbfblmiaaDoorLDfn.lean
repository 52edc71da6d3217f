/- What Diff returns. -/
import Derived.Test.YtdcemnmbfblmiaaDoorPTx3
import Derived.Test.YtdcemnmbfblmiaaDoorLEdit
set_option linter.unusedVariables false
set_option linter.unusedSimpArgs false
namespace Go.Proofs.YtdcemnmbfblmiaaDoor.PT
open Go.RowKit Go.Proofs.YtdcemnmbfblmiaaDoor.Given Go.Proofs.YtdcemnmbfblmiaaDoorW.PrintWords Go.Proofs.YtdcemnmbfblmiaaDoorW.PrintLast Go.Proofs.YtdcemnmbfblmiaaDoorW.PrintMore

theorem bt_get (s : ByteArray) (i : Nat) (h : i < s.size) : bt s i = ((s.data.toList.getD i 0).toNat : Int) := by
  unfold bt
  simp [h, List.getD_eq_getElem?_getD, ByteArray.getElem_eq_getElem_data]
theorem byte_inj {x y : UInt8} : ((x.toNat : Int) = (y.toNat : Int)) ↔ x = y := by
  constructor
  · intro h; exact UInt8.toNat_inj.1 (by omega)
  · rintro rfl; rfl
/-- what Diff finds: h bytes at the beginning are the same, t at the end -/
structure DiffOf (A B : List UInt8) (h t : Nat) : Prop where
  ra : h + t ≤ A.length
  rb : h + t ≤ B.length
  head : ∀ i, i < h → A.getD i 0 = B.getD i 0
  tail : ∀ i, i < t → A.getD (A.length - 1 - i) 0 = B.getD (B.length - 1 - i) 0
  stop : h = min A.length B.length ∨ A.getD h 0 ≠ B.getD h 0
  ends : h + t = min A.length B.length ∨ A.getD (A.length - 1 - t) 0 ≠ B.getD (B.length - 1 - t) 0
theorem diff_tail (a b : ByteArray) (ha : a.size ≤ 1048576) (hb : b.size ≤ 1048576) (h : Nat) (hm : h ≤ min a.size b.size) (hhead : ∀ i, i < h → a.data.toList.getD i 0 = b.data.toList.getD i 0)
    (hstop : h = min a.size b.size ∨ a.data.toList.getD h 0 ≠ b.data.toList.getD h 0) : ∀ (d t k : Nat), h + t + d = min a.size b.size → d < k → (∀ i, i < t → a.data.toList.getD (a.size - 1 - i) 0 = b.data.toList.getD (b.size - 1 - i) 0) →
    ∃ t', DiffOf a.data.toList b.data.toList h t' ∧ text_Diff.l1 k a b ((min a.size b.size : Nat) : Int) (h : Int) (t : Int) = some ((h : Int), ((a.size - h - t' : Nat) : Int), b.extract h (b.size - t')) := by
  have hla := len_list a
  have hlb := len_list b
  intro d
  induction d with
  | zero =>
    intro t k ht hk htail
    obtain ⟨k, rfl⟩ : ∃ m, k = m + 1 := ⟨k - 1, by omega⟩
    refine ⟨t, ⟨by omega, by omega, hhead, by rw [hla, hlb]; exact htail, by rw [hla, hlb]; exact hstop, .inl (by rw [hla, hlb]; omega)⟩, ?_⟩
    rw [text_Diff.l1, if_neg (by rw [IntWalk.wrap64_in _ (by omega)]; omega), if_pos (by omega), show wrap64 ((b.size : Int) - t) = ((b.size - t : Nat) : Int) by rw [IntWalk.wrap64_in _ (by omega)]; omega, if_pos (by omega), if_pos (by omega),
      Int.toNat_natCast, Int.toNat_natCast, IntWalk.wrap64_in ((a.size : Int) - h) (by omega), IntWalk.wrap64_in _ (by omega)]
    congr 3
    omega
  | succ d ih =>
    intro t k ht hk htail
    obtain ⟨k, rfl⟩ : ∃ m, k = m + 1 := ⟨k - 1, by omega⟩
    have e1 : wrap64 (wrap64 ((a.size : Int) - 1) - t) = ((a.size - 1 - t : Nat) : Int) := by rw [IntWalk.wrap64_in ((a.size : Int) - 1) (by omega), IntWalk.wrap64_in _ (by omega)]; omega
    have e2 : wrap64 (wrap64 ((b.size : Int) - 1) - t) = ((b.size - 1 - t : Nat) : Int) := by rw [IntWalk.wrap64_in ((b.size : Int) - 1) (by omega), IntWalk.wrap64_in _ (by omega)]; omega
    rw [text_Diff.l1, if_pos (by rw [IntWalk.wrap64_in _ (by omega)]; omega), e1, e2, if_pos (by omega), if_pos (by omega), if_pos (by omega), if_pos (by omega), bt_get a _ (by omega), bt_get b _ (by omega)]
    by_cases hx : a.data.toList.getD (a.size - 1 - t) 0 = b.data.toList.getD (b.size - 1 - t) 0
    · rw [if_pos (byte_inj.2 hx), show wrap64 ((t : Int) + 1) = ((t + 1 : Nat) : Int) by rw [IntWalk.wrap64_in _ (by omega)]; omega]
      refine ih (t + 1) k (by omega) (by omega) (fun i hi => ?_)
      rcases Nat.lt_or_ge i t with h1 | h1
      · exact htail i h1
      · rw [show i = t by omega]
        exact hx
    · rw [if_neg (fun e => hx (byte_inj.1 e)), if_pos (by omega), show wrap64 ((b.size : Int) - t) = ((b.size - t : Nat) : Int) by rw [IntWalk.wrap64_in _ (by omega)]; omega, if_pos (by omega), if_pos (by omega),
        Int.toNat_natCast, Int.toNat_natCast, IntWalk.wrap64_in ((a.size : Int) - h) (by omega), IntWalk.wrap64_in _ (by omega)]
      refine ⟨t, ⟨by omega, by omega, hhead, by rw [hla, hlb]; exact htail, by rw [hla, hlb]; exact hstop, .inr (by rw [hla, hlb]; exact hx)⟩, ?_⟩
      congr 3
      omega
theorem diff_head (a b : ByteArray) (ha : a.size ≤ 1048576) (hb : b.size ≤ 1048576) : ∀ (d h k : Nat), h + d = min a.size b.size → d + min a.size b.size + 2 < k → (∀ i, i < h → a.data.toList.getD i 0 = b.data.toList.getD i 0) →
    ∃ h' t', DiffOf a.data.toList b.data.toList h' t' ∧ text_Diff.l0 k a b ((min a.size b.size : Nat) : Int) (h : Int) = some ((h' : Int), ((a.size - h' - t' : Nat) : Int), b.extract h' (b.size - t')) := by
  have hla := len_list a
  have hlb := len_list b
  intro d
  induction d with
  | zero =>
    intro h k hh hk hhead
    obtain ⟨k, rfl⟩ : ∃ m, k = m + 1 + 1 := ⟨k - 2, by omega⟩
    obtain ⟨t', h1, h2⟩ := diff_tail a b ha hb h (by omega) hhead (.inl (by omega)) (min a.size b.size - h) 0 k (by omega) (by omega) (fun i hi => absurd hi (by omega))
    refine ⟨h, t', h1, ?_⟩
    rw [text_Diff.l0, if_neg (by omega), text_Diff.j1]
    exact h2
  | succ d ih =>
    intro h k hh hk hhead
    obtain ⟨k, rfl⟩ : ∃ m, k = m + 1 + 1 := ⟨k - 2, by omega⟩
    rw [text_Diff.l0, if_pos (by omega), if_pos (by omega), if_pos (by omega), if_pos (by omega), bt_get a _ (by omega), bt_get b _ (by omega)]
    by_cases hx : a.data.toList.getD h 0 = b.data.toList.getD h 0
    · rw [if_pos (byte_inj.2 hx), show wrap64 ((h : Int) + 1) = ((h + 1 : Nat) : Int) by rw [IntWalk.wrap64_in _ (by omega)]; omega]
      refine ih (h + 1) (k + 1) (by omega) (by omega) (fun i hi => ?_)
      rcases Nat.lt_or_ge i h with h1 | h1
      · exact hhead i h1
      · rw [show i = h by omega]
        exact hx
    · obtain ⟨t', h1, h2⟩ := diff_tail a b ha hb h (by omega) hhead (.inr hx) (min a.size b.size - h) 0 k (by omega) (by omega) (fun i hi => absurd hi (by omega))
      refine ⟨h, t', h1, ?_⟩
      rw [if_neg (fun e => hx (byte_inj.1 e)), text_Diff.j1]
      exact h2
theorem diff_f (a b : ByteArray) (ha : a.size ≤ 1048576) (hb : b.size ≤ 1048576) (k : Nat) (hk : 2 * a.size + 3 ≤ k) :
    ∃ h t, DiffOf a.data.toList b.data.toList h t ∧ text_Diff.f k a b = some ((h : Int), ((a.size - h - t : Nat) : Int), b.extract h (b.size - t)) := by
  have e : mn (a.size : Int) (b.size : Int) = ((min a.size b.size : Nat) : Int) := by unfold mn; split <;> omega
  unfold text_Diff.f
  rw [e]
  exact diff_head a b ha hb (min a.size b.size) 0 k (by omega) (by omega) (fun i hi => absurd hi (by omega))
end Go.Proofs.YtdcemnmbfblmiaaDoor.PT
