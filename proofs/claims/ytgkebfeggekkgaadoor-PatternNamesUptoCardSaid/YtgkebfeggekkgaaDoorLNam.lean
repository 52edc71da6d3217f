/- THE PLAIN LAW of PatternNames. -/
import Derived.Test.YtgkebfeggekkgaaDoorPTx36
import Derived.Test.YtgkebfeggekkgaaDoorLLok
set_option linter.unusedVariables false
set_option linter.unusedSimpArgs false
set_option linter.unusedSectionVars false
namespace Go.Proofs.YtgkebfeggekkgaaDoor.Given
open Go.RowKit Go.Proofs.YtgkebfeggekkgaaDoor.PT Go.Proofs.YtgkebfeggekkgaaDoorW.PrintWords

section
variable (x : ByteArray) (ns : List (List ByteArray)) (more : List ByteArray) (h0 : 0 < ns.length) (hn : ns.length ≤ 1048576) (hM : ∀ l ∈ ns, l.length ≤ 1048576) (hm : more.length ≤ 1048576)
include h0 hn hM hm
theorem all_short : ∀ l ∈ ns ++ [more], l.length ≤ 1048576 := by
  intro l hl
  rcases List.mem_append.1 hl with h | h
  · exact hM l h
  · rw [List.mem_singleton.1 h]
    exact hm
theorem names_end (k : Nat) (hk : 4000000 ≤ k) : mjolnerlaw09_PatternNames.l0 k ns x more true (ns ++ [more]) (hasN x more) (more.length : Int) = some true := by
  obtain ⟨k, rfl⟩ : ∃ m, k = m + 1 := ⟨k - 1, by omega⟩
  have hlen : (ns ++ [more]).length = ns.length + 1 := by simp
  have e1 : wrap64 ((ns.length : Int) - 1) = (ns.length : Int) - 1 := IntWalk.wrap64_in _ (by omega)
  have q1 : ¬ (more.length : Int) < (more.length : Int) := by omega
  have a1 : pattern_Lookup.f k (ns ++ [more]) (ns.length : Int) x = some (lk x (ns ++ [more]) (ns.length + 1)) := by
    rw [lookup_f x (ns ++ [more]) (by omega) 1048576 (all_short ns more h0 hn hM hm) (by omega) _ k (by omega), if_pos (by omega), Int.toNat_natCast]
  have a2 : pattern_Lookup.f k ns ((ns.length : Int) - 1) x = some (lk x ns ns.length) := by
    rw [lookup_f x ns (by omega) 1048576 hM (by omega) _ k (by omega), if_pos (by omega), show ((ns.length : Int) - 1).toNat + 1 = ns.length by omega]
  have a3 : lk x (ns ++ [more]) (ns.length + 1) = if hasN x more = true then ((ns.length : Int), 0) else lk x ns ns.length := by
    unfold lk
    rw [lk_append x ns more ns.length (Nat.le_refl _)]
    have : (ns ++ [more]).getD ns.length [] = more := by
      rw [List.getD_eq_getElem?_getD, List.getElem?_append_right (Nat.le_refl _)]
      simp
    rw [this]
    cases ns with
    | nil => simp at h0
    | cons y r => rfl
  rw [mjolnerlaw09_PatternNames.l0, if_neg q1, e1, a1, Option.bind_some, a2, Option.bind_some, a3]
  cases hasN x more with
  | true => simp
  | false => simp
theorem names_l0 : ∀ (d i k : Nat) (b : Bool), i + d = more.length → d + 4000000 ≤ k → (b || hasN x (more.drop i)) = hasN x more → mjolnerlaw09_PatternNames.l0 k ns x more true (ns ++ [more]) b (i : Int) = some true := by
  intro d
  induction d with
  | zero =>
    intro i k b hi hk hb
    obtain rfl : i = more.length := by omega
    rw [List.drop_length] at hb
    have : b = hasN x more := by rw [← hb]; simp [hasN]
    rw [this]
    exact names_end x ns more h0 hn hM hm k (by omega)
  | succ d ih =>
    intro i k b hi hk hb
    obtain ⟨k, rfl⟩ : ∃ m, k = m + 1 := ⟨k - 1, by omega⟩
    have h1 : (i : Int) < (more.length : Int) := by omega
    have h2 : (0 : Int) ≤ (i : Int) := by omega
    have hi1 : i < more.length := by omega
    have h5 : wrap64 ((i : Int) + 1) = ((i + 1 : Nat) : Int) := w64 (by omega) (by omega)
    have hd : hasN x (more.drop i) = (more[i].toList == x.toList || hasN x (more.drop (i + 1))) := by
      rw [List.drop_eq_getElem_cons hi1]
      rfl
    rw [hd] at hb
    cases b with
    | true =>
      have h4 := ih (i + 1) k true (by omega) (by omega) (by rw [← hb]; rfl)
      rw [mjolnerlaw09_PatternNames.l0, if_pos h1, if_pos rfl, h5, h4]
    | false =>
      have h4 := ih (i + 1) k (more[i].toList == x.toList) (by omega) (by omega) (by rw [← hb, Bool.false_or])
      rw [mjolnerlaw09_PatternNames.l0, if_pos h1, if_neg (by decide), if_pos h2, rdS more i hi1, h5, h4]
end
theorem names_any (ns : List (List ByteArray)) (a : Int) (x : ByteArray) (more : List ByteArray) (hn : ns.length ≤ 1048576) (hM : ∀ l ∈ ns, l.length ≤ 1048576) (hm : more.length ≤ 1048576) (k : Nat) (hk : 6000000 ≤ k) :
    mjolnerlaw09_PatternNames.f k ns a x more = some true := by
  obtain ⟨k, rfl⟩ : ∃ m, k = m + 1 := ⟨k - 1, by omega⟩
  have hL := lookup_f x ns (by omega) 1048576 hM (by omega) a (k + 1) (by omega)
  unfold mjolnerlaw09_PatternNames.f
  rw [awake_tr, Option.bind_some, hL]
  by_cases hin : 0 ≤ a ∧ a < (ns.length : Int)
  · have h0 : 0 < ns.length := by omega
    have hlen : (ns ++ [more]).length = ns.length + 1 := by simp
    have hA := lookup_f x (ns ++ [more]) (by omega) 1048576 (all_short ns more h0 hn hM hm) (by omega) a (k + 1) (by omega)
    rw [if_pos (by omega), lk_append x ns more (a.toNat + 1) (by omega)] at hA
    have b1 : ([] : List (List ByteArray)).length + ns.length < 5864062014805 := by
      rw [List.length_nil]
      omega
    have b2 : (([] : List (List ByteArray)) ++ ns).length < 5864062014805 := by
      rw [List.nil_append]
      omega
    rw [if_pos hin, Option.bind_some, if_neg (lk_not1 x ns _), if_pos b1, Option.bind_some, if_pos b2, Option.bind_some, List.nil_append, hA, Option.bind_some, if_pos rfl]
    have hb : ((lk x ns (a.toNat + 1)).2 != (lk x ns (a.toNat + 1)).2) = false := by simp
    rw [hb, mjolnerlaw09_PatternNames.j0, if_neg (by decide)]
    exact names_l0 x ns more h0 hn hM hm more.length 0 k false (by omega) (by omega) (by rw [List.drop_zero, Bool.false_or])
  · rw [if_neg hin, Option.bind_some, if_pos rfl, if_pos rfl]
    by_cases h1 : a < 0
    · rw [if_pos h1]
    · rw [if_neg h1, decide_eq_true (by omega)]
theorem PatternNames_law (ns : List (List ByteArray)) (a : Int) (x : ByteArray) (more : List ByteArray) (hn : ns.length ≤ 1048576) (hM : ∀ l ∈ ns, l.length ≤ 1048576) (_ : x.size ≤ 1048576) (hm : more.length ≤ 1048576) : ∃ k, mjolnerlaw09_PatternNames.f k ns a x more = some true :=
  ⟨_, names_any ns a x more hn hM hm _ (Nat.le_refl _)⟩
end Go.Proofs.YtgkebfeggekkgaaDoor.Given
