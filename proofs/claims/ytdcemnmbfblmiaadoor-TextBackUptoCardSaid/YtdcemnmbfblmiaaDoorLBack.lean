/- The plain law behind TextBack: for all texts, what the printed function computes is true: what is shown reads back, and what reads shows again. -/
import Derived.Test.YtdcemnmbfblmiaaDoorPTx34
import Derived.Test.YtdcemnmbfblmiaaDoorGi
set_option linter.unusedVariables false
set_option linter.unusedSimpArgs false
namespace Go.Proofs.YtdcemnmbfblmiaaDoor.PT
open Go.RowKit Go.Proofs.YtdcemnmbfblmiaaDoor.Given Go.Proofs.YtdcemnmbfblmiaaDoorW.PrintWords Go.Proofs.YtdcemnmbfblmiaaDoorW.PrintLast Go.Proofs.YtdcemnmbfblmiaaDoorW.PrintMore

theorem digs_back : ∀ x : Nat, x < 16 → digB (digs.getD x 0) = x ∧ 33 ≤ (digs.getD x 0).toNat ∧ (digs.getD x 0).toNat ≤ 126 := by decide
theorem digs_of (c : UInt8) (h : digB c < 16) : digs.getD (digB c) 0 = c := by
  have h1 : digs[digs.idxOf c]'h = c := List.getElem_idxOf h
  have h2 : digB c < digs.length := h
  rw [List.getD_eq_getElem?_getD, List.getElem?_eq_getElem h2]
  exact h1
theorem show_range (b : UInt8) : ∀ x ∈ showB b, 33 ≤ x.toNat ∧ x.toNat ≤ 126 := by
  intro x hx
  unfold showB at hx
  have hb := b.toNat_lt
  split at hx
  · rename_i h
    simp only [List.mem_singleton] at hx
    subst hx
    unfold plainB at h
    simp only [Bool.and_eq_true, decide_eq_true_eq] at h
    exact ⟨h.1.1, h.1.2⟩
  · simp only [List.mem_cons, List.not_mem_nil, or_false] at hx
    rcases hx with rfl | rfl | rfl
    · decide
    · exact (digs_back _ (by omega)).2
    · exact (digs_back _ (by omega)).2
theorem read_show : ∀ (a r : List UInt8), readL (showL a ++ r) = (readL r).map (a ++ ·)
  | [], r => by simp [showL]
  | b :: a, r => by
    have ih := read_show a r
    have hb := b.toNat_lt
    have e : showL (b :: a) = showB b ++ showL a := by simp [showL]
    rw [e, List.append_assoc]
    by_cases hp : plainB b = true
    · rw [show showB b = [b] by unfold showB; rw [hp]; rfl, List.singleton_append, readL_cons, if_pos hp, ih]
      cases readL r <;> rfl
    · have hp2 : plainB b = false := by simpa using hp
      rw [show showB b = [37, digs.getD (b.toNat / 16) 0, digs.getD (b.toNat % 16) 0] by unfold showB; rw [hp2]; rfl]
      obtain ⟨h1, _⟩ := digs_back (b.toNat / 16) (by omega)
      obtain ⟨h2, _⟩ := digs_back (b.toNat % 16) (by omega)
      simp only [List.cons_append, List.nil_append]
      rw [readL_cons, if_neg (by decide), if_pos rfl]
      simp only [h1, h2]
      have h3 : UInt8.ofNat (16 * (b.toNat / 16) + b.toNat % 16) = b := by
        apply UInt8.toNat_inj.1
        rw [UInt8.toNat_ofNat']
        omega
      rw [h3, if_pos ⟨by omega, by omega, hp2⟩, ih]
      cases readL r <;> rfl
theorem read_shown (a : List UInt8) : readL (showL a) = some a := by
  have h := read_show a []
  rw [List.append_nil] at h
  rw [h]
  simp [readL]
theorem show_inj {a b : List UInt8} (h : showL a = showL b) : a = b := by
  have h1 := read_shown a
  rw [h, read_shown b] at h1
  exact (Option.some.inj h1).symm
theorem show_read : ∀ (n : Nat) (a c : List UInt8), a.length ≤ n → readL a = some c → showL c = a
  | _, [], c, _, h => by
    simp only [readL, Option.some.injEq] at h
    subst h
    rfl
  | 0, b :: r, _, hn, _ => by simp at hn
  | n + 1, b :: r, c, hn, h => by
    simp only [List.length_cons] at hn
    rw [readL_cons] at h
    split at h
    · rename_i hp
      cases hr : readL r with
      | none => rw [hr] at h; cases h
      | some c' =>
        rw [hr] at h
        simp only [Option.map_some, Option.some.injEq] at h
        subst h
        have := show_read n r c' (by omega) hr
        show showB b ++ showL c' = _
        rw [this, show showB b = [b] by unfold showB; rw [hp]; rfl]
        rfl
    · split at h
      · rename_i h37
        split at h
        · rename_i x y r'
          split at h
          · rename_i hd
            obtain ⟨d1, d2, d3⟩ := hd
            cases hr : readL r' with
            | none => rw [hr] at h; cases h
            | some c' =>
              rw [hr] at h
              simp only [Option.map_some, Option.some.injEq] at h
              subst h
              have := show_read n r' c' (by simp only [List.length_cons] at hn; omega) hr
              show showB _ ++ showL c' = _
              have e1 : (UInt8.ofNat (16 * digB x + digB y)).toNat = 16 * digB x + digB y := by rw [UInt8.toNat_ofNat']; omega
              have e2 : (16 * digB x + digB y) / 16 = digB x := by omega
              have e3 : (16 * digB x + digB y) % 16 = digB y := by omega
              rw [this, show showB (UInt8.ofNat (16 * digB x + digB y)) = [37, x, y] by unfold showB; rw [d3, e1, e2, e3, digs_of x d1, digs_of y d2]; rfl, h37]
              rfl
          · cases h
        · cases h
      · cases h
theorem bt_list (s : ByteArray) (i : Nat) (h : i < s.size) : bt s i = ((s.data.toList.getD i 0).toNat : Int) := by
  unfold bt
  simp [h, List.getD_eq_getElem?_getD, ByteArray.getElem_eq_getElem_data]
theorem ba_list (l : List UInt8) : (ba l).data.toList = l := rfl
theorem ba_size (l : List UInt8) : (ba l).size = l.length := by simp [ba, ByteArray.size]
theorem ba_self (a : ByteArray) : ba a.data.toList = a := rfl
theorem bytes_list (a : ByteArray) : a.toList = a.data.toList := ByteArray.toList_eq a
theorem back_loop (a : ByteArray) (l : List UInt8) (hl : ∀ x ∈ l, 33 ≤ x.toNat ∧ x.toNat ≤ 126) (hs : l.length ≤ 1000000000) (ha : a.size ≤ 100000000) : ∀ (d i : Nat), i + d = l.length →
    mjolnerlaw03_TextBack.l0 (d + 1) a true (ba l) i = some true := by
  intro d
  induction d with
  | zero =>
    intro i hi
    rw [mjolnerlaw03_TextBack.l0, if_neg (by rw [ba_size]; omega)]
    unfold text_Read.f
    rw [if_pos (by omega)]
    cases hr : readL a.data.toList with
    | none =>
      simp only [Option.bind_some, if_true]
      rw [if_neg (by decide), if_pos (by rw [bytes_list])]
    | some c =>
      have hsh := show_read _ _ _ (Nat.le_refl _) hr
      have hlen : c.length ≤ (showL c).length := by
        clear hsh hr
        induction c with
        | nil => simp [showL]
        | cons b r ih =>
          have : showL (b :: r) = showB b ++ showL r := by simp [showL]
          rw [this, List.length_append, List.length_cons]
          have : 1 ≤ (showB b).length := by unfold showB; split <;> simp
          omega
      rw [hsh] at hlen
      have h4 : a.data.toList.length = a.size := by simp
      simp only [Option.bind_some, if_true]
      unfold text_Show.f
      rw [if_pos (show (ba c).size ≤ 1000000000 by rw [ba_size]; omega), ba_list, hsh, ba_self]
      simp
  | succ d ih =>
    intro i hi
    have hil : i < l.length := by omega
    obtain ⟨r1, r2⟩ := hl (l.getD i 0) (by rw [List.getD_eq_getElem?_getD, List.getElem?_eq_getElem hil]; exact List.getElem_mem hil)
    have hb : bt (ba l) i = ((l.getD i 0).toNat : Int) := by rw [bt_list _ _ (by rw [ba_size]; omega), ba_list]
    rw [mjolnerlaw03_TextBack.l0, if_pos (by rw [ba_size]; omega), if_pos (by omega), if_neg (by rw [hb]; omega), if_neg (by rw [hb]; omega)]
    rw [show wrap64 ((i : Int) + 1) = ((i + 1 : Nat) : Int) by rw [IntWalk.wrap64_in _ (by omega)]; omega]
    exact ih (i + 1) (by omega)
theorem TextBack_law (a b : ByteArray) (ha : a.size ≤ 1048576) (hb : b.size ≤ 1048576) : ∃ k, mjolnerlaw03_TextBack.f k a b = some true := by
  have la : a.data.toList.length = a.size := by simp
  have lb : b.data.toList.length = b.size := by simp
  have sa := showL_len a.data.toList
  have sb := showL_len b.data.toList
  have hs1 : text_Show.f a = some (ba (showL a.data.toList)) := by unfold text_Show.f; rw [if_pos (by omega)]
  have hs2 : text_Show.f b = some (ba (showL b.data.toList)) := by unfold text_Show.f; rw [if_pos (by omega)]
  have hsz : (a ++ b).size = a.size + b.size := ByteArray.size_append
  have hap : showL (a.data.toList ++ b.data.toList) = showL a.data.toList ++ showL b.data.toList := by unfold showL; rw [List.flatMap_append]
  have hs3 : text_Show.f (a ++ b) = some (ba (showL a.data.toList ++ showL b.data.toList)) := by
    unfold text_Show.f
    rw [if_pos (by omega), show (a ++ b).data.toList = a.data.toList ++ b.data.toList by simp, hap]
  have hread : text_Read.f (ba (showL a.data.toList)) = some (ba a.data.toList, 0) := by
    unfold text_Read.f
    rw [if_pos (by rw [ba_size]; omega), ba_list, read_shown]
  have y1 : (((ba (showL a.data.toList)).toList == (ba (showL b.data.toList)).toList) != (a.toList == b.toList)) = false := by
    rw [bytes_list, bytes_list, bytes_list, bytes_list, ba_list, ba_list]
    by_cases h : a.data.toList = b.data.toList
    · rw [h, beq_self_eq_true, beq_self_eq_true]; rfl
    · rw [beq_eq_false_iff_ne.2 h, beq_eq_false_iff_ne.2 (fun e => h (show_inj e))]; rfl
  have y2 : ((ba (showL a.data.toList ++ showL b.data.toList)).toList != (ba (showL a.data.toList) ++ ba (showL b.data.toList)).toList) = false := by
    rw [bytes_list, bytes_list, ba_list, show (ba (showL a.data.toList) ++ ba (showL b.data.toList)).data.toList = showL a.data.toList ++ showL b.data.toList by simp [ba]]
    simp
  refine ⟨(showL a.data.toList).length + 1 + 1, ?_⟩
  unfold mjolnerlaw03_TextBack.f mjolnerlaw03_sane.f
  rw [hs1, hs2]
  simp only [Option.bind_some]
  rw [hread]
  simp only [Option.bind_some, if_true]
  rw [if_pos (by rw [bytes_list, bytes_list, ba_list]), if_neg (by rw [y1]; decide), if_pos (by omega), hs3]
  simp only [Option.bind_some]
  rw [if_pos (by rw [ba_size, ba_size]; omega), y2, mjolnerlaw03_TextBack.j0, if_neg (by decide)]
  refine back_loop a _ (fun x hx => ?_) (by omega) (by omega) _ 0 (by omega)
  unfold showL at hx
  obtain ⟨y, _, hy⟩ := List.mem_flatMap.1 hx
  exact show_range y x hy
end Go.Proofs.YtdcemnmbfblmiaaDoor.PT
