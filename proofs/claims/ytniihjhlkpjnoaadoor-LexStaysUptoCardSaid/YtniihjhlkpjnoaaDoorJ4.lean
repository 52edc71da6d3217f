/- Plain functions of package lex: what the item at the beginning of a text is, and what the items of a text are. -/
import Derived.Below
section
set_option linter.unusedVariables false
set_option linter.unusedSimpArgs false
namespace Go.Proofs.YtniihjhlkpjnoaaDoor.Given
def letB (c : UInt8) : Bool := (decide (97 ≤ c.toNat) && decide (c.toNat ≤ 122)) || (decide (65 ≤ c.toNat) && decide (c.toNat ≤ 90))
def digB (c : UInt8) : Bool := decide (48 ≤ c.toNat) && decide (c.toNat ≤ 57)
def plnB (c : UInt8) : Bool := decide (32 ≤ c.toNat) && decide (c.toNat ≤ 126)
def blkB (c : UInt8) : Bool := decide (c.toNat = 9) || decide (c.toNat = 10) || decide (c.toNat = 13) || decide (c.toNat = 32)
def runL (p : UInt8 → Bool) : List UInt8 → Nat
 | [] => 0
 | c :: r => if p c = true then runL p r + 1 else 0
def wordsL : List (List UInt8) := [[101, 110, 116, 101, 114], [100, 111], [101, 120, 105, 116], [105, 110, 110, 101, 114], [108, 101, 97, 118, 101], [114, 101, 115, 116, 97, 114, 116], [115, 117, 115, 112, 101, 110, 100], [105, 102], [116, 104, 101, 110], [101, 108, 115, 101], [102, 111, 114], [114, 101, 112, 101, 97, 116], [116, 104, 105, 115], [110, 111, 110, 101], [116, 114, 117, 101], [102, 97, 108, 115, 101], [110, 111, 116], [97, 110, 100], [111, 114], [100, 105, 118], [109, 111, 100], [114, 97, 110, 103, 101], [102, 111, 114, 107], [112, 97, 117, 115, 101], [119, 97, 105, 116], [115, 105, 103, 110, 97, 108], [115, 108, 111, 116], [97, 116, 116, 114, 105, 98, 117, 116, 101, 115], [100, 111, 112, 97, 114, 116], [100, 101, 115, 99, 114, 105, 112, 116, 111, 114], [111, 114, 105, 103, 105, 110], [105, 110, 99, 108, 117, 100, 101], [98, 111, 100, 121]]
def signsL : List (List UInt8) := [[40, 35], [35, 41], [40], [41], [91], [93], [91, 93], [58], [58, 60], [58, 58, 60], [58, 58], [64], [64, 124], [94], [94, 124], [35, 35], [44], [59], [46], [45, 62], [47, 47], [38], [43], [45], [42], [47], [124, 124], [61], [60, 62], [60], [60, 61], [62], [62, 61], [60, 60], [62, 62]]
structure Itm where
 kind : Int
 text : List UInt8
 n : Int
 len : Nat
 e : Int
 sure : Bool
deriving DecidableEq
def tokI (kind : Int) (t : List UInt8) (n : Nat) (sure : Bool) : Itm := ⟨kind, t.take n, 0, n, 0, sure⟩
def badI (e : Int) (sure : Bool) : Itm := ⟨0, [], 0, 0, e, sure⟩
def classL : List UInt8 → Int
 | [] => 0
 | c :: r => if c.toNat = 40 ∧ r.head? = some 42 then 5 else if c.toNat = 39 then 3 else if c.toNat = 34 then 4 else if digB c = true then 2 else if letB c = true then 1 else if blkB c = true then 6 else 0
def alnB (c : UInt8) : Bool := letB c || digB c
def letterN (t : List UInt8) (n : Nat) : Itm :=
 if t.take n ∈ wordsL then tokI 1 t n (decide (n < t.length)) else if 16 < n then badI 2 true else tokI 2 t n (decide (n < t.length))
def letterI (t : List UInt8) : Itm := letterN t (runL alnB t)
def expK (t : List UInt8) (n k : Nat) : Nat × Bool :=
 if k < t.length then (if digB (t.getD k 0) = true then (k + runL digB (t.drop k), decide (k + runL digB (t.drop k) < t.length)) else (n, true)) else (n, false)
def expAt (t : List UInt8) (n : Nat) : Nat := if (t.getD (n + 1) 0).toNat = 43 ∨ (t.getD (n + 1) 0).toNat = 45 then n + 2 else n + 1
def expL (t : List UInt8) (n : Nat) : Nat × Bool := expK t n (expAt t n)
def realL (t : List UInt8) (m : Nat) : Nat × Int × Bool :=
 if m < t.length ∧ (t.getD m 0).toNat = 101 then ((expL t m).1, 4, (expL t m).2) else (m, 4, decide (m < t.length))
def intL (t : List UInt8) (n : Nat) : Nat × Int × Bool := (n, 3, decide (n < t.length) && !(decide ((t.getD n 0).toNat = 46) && decide (n + 1 = t.length)))
def numN (t : List UInt8) (n : Nat) : Nat × Int × Bool :=
 if n + 1 < t.length ∧ (t.getD n 0).toNat = 46 ∧ digB (t.getD (n + 1) 0) = true then realL t (n + 1 + runL digB (t.drop (n + 1))) else intL t n
def numL (t : List UInt8) : Nat × Int × Bool := numN t (runL digB t)
def numberX (t : List UInt8) (x : Nat × Int × Bool) : Itm :=
 if x.1 < t.length ∧ letB (t.getD x.1 0) = true then badI 7 x.2.2 else tokI x.2.1 t x.1 x.2.2
def numberI (t : List UInt8) : Itm := numberX t (numL t)
def tickI (t : List UInt8) : Itm :=
 if (1 < t.length ∧ (plnB (t.getD 1 0) = false ∨ (t.getD 1 0).toNat = 39)) ∨ (2 < t.length ∧ ¬ (t.getD 2 0).toNat = 39) then badI 7 true
 else if t.length < 3 then badI 7 false else ⟨5, [], (t.getD 1 0).toNat, 3, 0, true⟩
def inqB (c : UInt8) : Bool := !decide (c.toNat = 34) && plnB c
def quoteN (t : List UInt8) (n : Nat) : Itm :=
 if n = t.length then badI 7 false else if ¬ (t.getD n 0).toNat = 34 then badI 7 true else if 80 < n - 1 then badI 2 true else ⟨6, (t.take n).drop 1, 0, n + 1, 0, true⟩
def quoteI (t : List UInt8) : Itm := quoteN t (1 + runL inqB (t.drop 1))
def endL : List UInt8 → Option Nat
 | [] => none
 | c :: r => if c.toNat = 42 ∧ r.head? = some 41 then some 0 else (endL r).map (· + 1)
def noteI (t : List UInt8) : Itm :=
 match endL (t.drop 2) with
 | none => badI 7 false
 | some n => ⟨0, [], 0, n + 4, 0, true⟩
def signL (t : List UInt8) : Nat → Nat
 | 0 => 0
 | n + 1 => if t.take (n + 1) ∈ signsL then n + 1 else signL t n
def openL (t : List UInt8) (n : Nat) : Bool := (signsL ++ [[40, 42]]).any fun x => decide (max n t.length < x.length) && decide (t <+: x)
def signN (t : List UInt8) (n : Nat) : Itm :=
 if n = 0 then badI 7 (!openL t n) else tokI 7 t n (!openL t n)
def signI (t : List UInt8) : Itm := signN t (signL t (min 3 t.length))
def itemL (c : Int) (t : List UInt8) : Itm :=
 if c = 1 then letterI t else if c = 2 then numberI t else if c = 3 then tickI t else if c = 4 then quoteI t else if c = 5 then noteI t else signI t
def itemsL (more : Bool) : Nat → List UInt8 → Nat → Int → List (Nat × Itm) × Option (Int × Nat)
 | 0, _, _, _ => ([], none)
 | _ + 1, [], _, _ => ([], none)
 | k + 1, c :: r, at', many =>
  if classL (c :: r) = 6 then itemsL more k r (at' + 1) many
  else
   let x := itemL (classL (c :: r)) (c :: r)
   if (!(decide (classL (c :: r) = 5) || (more && decide (c.toNat = 40) && decide (r = []))) && decide (131072 ≤ many)) = true then ([], some (2, at'))
   else if more = true ∧ x.sure = false then ([(at', x)], none)
   else if ¬ x.e = 0 then ([], some (x.e, at'))
   else
    let y := itemsL more k ((c :: r).drop x.len) (at' + x.len) (if x.kind = 0 then many else many + 1)
    ((at', x) :: y.1, y.2)
end Go.Proofs.YtniihjhlkpjnoaaDoor.Given
end
section
/- Plain: an item that is sure is the same whatever stands behind the text. -/
set_option linter.unusedVariables false
set_option linter.unusedSimpArgs false
namespace Go.Proofs.YtniihjhlkpjnoaaDoor.Given
theorem runL_le (p : UInt8 → Bool) : ∀ t, runL p t ≤ t.length
 | [] => Nat.le_refl _
 | c :: r => by
  unfold runL
  have := runL_le p r
  split <;> simp <;> omega
theorem runL_app (p : UInt8 → Bool) (u : List UInt8) : ∀ t, runL p t < t.length → runL p (t ++ u) = runL p t
 | [], h => by simp [runL] at h
 | c :: r, h => by
  show (if p c = true then runL p (r ++ u) + 1 else 0) = (if p c = true then runL p r + 1 else 0)
  unfold runL at h
  by_cases hc : p c = true
  ·rw [if_pos hc] at h
   rw [if_pos hc, if_pos hc, runL_app p u r (by simpa using h)]
  ·rw [if_neg hc, if_neg hc]
theorem runL_ge (p : UInt8 → Bool) (u : List UInt8) : ∀ t, runL p t ≤ runL p (t ++ u)
 | [] => by simp [runL]
 | c :: r => by
  show (if p c = true then runL p r + 1 else 0) ≤ (if p c = true then runL p (r ++ u) + 1 else 0)
  have := runL_ge p u r
  split <;> omega
theorem take_app {n : Nat} {t u : List UInt8} (h : n ≤ t.length) : (t ++ u).take n = t.take n := by rw [List.take_append_of_le_length h]
theorem getD_app {n : Nat} {t u : List UInt8} (h : n < t.length) : (t ++ u).getD n 0 = t.getD n 0 := by
 rw [List.getD_eq_getElem?_getD, List.getD_eq_getElem?_getD, List.getElem?_append_left h]
theorem getD_out {n : Nat} {t : List UInt8} (h : t.length ≤ n) : t.getD n 0 = 0 := by
 rw [List.getD_eq_getElem?_getD, List.getElem?_eq_none h]
 rfl
theorem drop_app {n : Nat} {t u : List UInt8} (h : n ≤ t.length) : (t ++ u).drop n = t.drop n ++ u := List.drop_append_of_le_length h
theorem lt_app {n : Nat} {t : List UInt8} (u : List UInt8) (h : n < t.length) : n < (t ++ u).length := by rw [List.length_append]; omega
theorem words_short : ∀ x ∈ wordsL, x.length ≤ 11 := by decide
theorem signs_short : ∀ x ∈ signsL, 1 ≤ x.length ∧ x.length ≤ 3 := by decide
theorem letter_stable (t u : List UInt8) (h : (letterI t).sure = true) : letterI (t ++ u) = letterI t := by
 unfold letterI letterN at h ⊢
 have hle := runL_le alnB t
 by_cases hn : runL alnB t < t.length
 ·have e := runL_app alnB u t hn
  have h1 : decide (runL alnB t < (t ++ u).length) = decide (runL alnB t < t.length) := by
   rw [decide_eq_true hn, decide_eq_true (lt_app u hn)]
  rw [e, take_app hle, h1]
  unfold tokI
  rw [take_app hle]
 ·rw [decide_eq_false hn] at h
  split at h
  ·cases h
  ·rename_i hw
   split at h
   ·rename_i h16
    have hge := runL_ge alnB u t
    have hnw : (t ++ u).take (runL alnB (t ++ u)) ∉ wordsL := fun hm => by
     have := words_short _ hm
     rw [List.length_take] at this
     have := runL_le alnB (t ++ u)
     omega
    rw [if_neg hnw, if_pos (by omega), if_neg hw, if_pos h16]
   ·cases h
theorem expK_stable (t u : List UInt8) (n k : Nat) (h : (expK t n k).2 = true) : expK (t ++ u) n k = expK t n k := by
 unfold expK at h ⊢
 by_cases h1 : k < t.length
 ·rw [if_pos h1] at h
  rw [if_pos h1, if_pos (lt_app u h1), getD_app h1]
  by_cases hd : digB (t.getD k 0) = true
  ·rw [if_pos hd] at h
   have hk' : k + runL digB (t.drop k) < t.length := of_decide_eq_true h
   rw [if_pos hd, if_pos hd, drop_app (Nat.le_of_lt h1), runL_app _ _ _ (by rw [List.length_drop]; omega), decide_eq_true hk', decide_eq_true (lt_app u hk')]
  ·rw [if_neg hd, if_neg hd]
 ·rw [if_neg h1] at h
  cases h
theorem expK_le (t : List UInt8) (n k : Nat) (hn : n < t.length) (h : (expK t n k).2 = true) : (expK t n k).1 < t.length := by
 unfold expK at h ⊢
 by_cases h1 : k < t.length
 ·rw [if_pos h1] at h ⊢
  by_cases hd : digB (t.getD k 0) = true
  ·rw [if_pos hd] at h ⊢
   exact of_decide_eq_true h
  ·rw [if_neg hd]
   exact hn
 ·rw [if_neg h1] at h
  cases h
theorem exp_stable (t u : List UInt8) (n : Nat) (h : (expL t n).2 = true) : expL (t ++ u) n = expL t n := by
 have h1 : n + 1 < t.length := by
  rcases Nat.lt_or_ge (n + 1) t.length with h1 | h1
  ·exact h1
  ·exfalso
   have e1 : expAt t n = n + 1 := by
    unfold expAt
    rw [getD_out h1, if_neg (by decide)]
   unfold expL at h
   rw [e1] at h
   unfold expK at h
   rw [if_neg (by omega)] at h
   cases h
 have e : expAt (t ++ u) n = expAt t n := by
  unfold expAt
  rw [getD_app h1]
 unfold expL at h ⊢
 rw [e]
 exact expK_stable t u n _ h
theorem real_stable (t u : List UInt8) (m : Nat) (h : (realL t m).2.2 = true) : realL (t ++ u) m = realL t m ∧ (realL t m).1 < t.length ∧ m < t.length := by
 unfold realL at h ⊢
 by_cases hm : m < t.length
 ·rw [getD_app hm]
  by_cases he : (t.getD m 0).toNat = 101
  ·have c1 : m < t.length ∧ (t.getD m 0).toNat = 101 := ⟨hm, he⟩
   have c2 : m < (t ++ u).length ∧ (t.getD m 0).toNat = 101 := ⟨lt_app u hm, he⟩
   rw [if_pos c1] at h
   rw [if_pos c1, if_pos c2, exp_stable t u m h]
   exact ⟨rfl, expK_le t m _ hm h, hm⟩
  ·rw [if_neg (fun h => he h.2), if_neg (fun h => he h.2), decide_eq_true hm, decide_eq_true (lt_app u hm)]
   exact ⟨rfl, hm, hm⟩
 ·rw [if_neg (fun h => hm h.1), decide_eq_false hm] at h
  cases h
theorem num_stable (t u : List UInt8) (h : (numL t).2.2 = true) : numL (t ++ u) = numL t ∧ (numL t).1 < t.length := by
 unfold numL at h ⊢
 have hle := runL_le digB t
 by_cases hn : runL digB t < t.length
 ·rw [runL_app digB u t hn]
  generalize runL digB t = n at h hle hn ⊢
  unfold numN at h ⊢
  by_cases hc : n + 1 < t.length ∧ (t.getD n 0).toNat = 46 ∧ digB (t.getD (n + 1) 0) = true
  ·have hc' : n + 1 < (t ++ u).length ∧ ((t ++ u).getD n 0).toNat = 46 ∧ digB ((t ++ u).getD (n + 1) 0) = true := by
    rw [getD_app hn, getD_app hc.1]
    exact ⟨lt_app u hc.1, hc.2⟩
   rw [if_pos hc] at h ⊢
   obtain ⟨h1, h2, h3⟩ := real_stable t u _ h
   rw [if_pos hc', drop_app (by omega), runL_app digB u _ (by rw [List.length_drop]; omega)]
   exact ⟨h1, h2⟩
  ·have hc' : ¬ (n + 1 < (t ++ u).length ∧ ((t ++ u).getD n 0).toNat = 46 ∧ digB ((t ++ u).getD (n + 1) 0) = true) := by
    rintro ⟨h1, h2, h3⟩
    rw [getD_app hn] at h2
    rw [if_neg hc] at h
    unfold intL at h
    rw [decide_eq_true hn, decide_eq_true h2, Bool.true_and, Bool.true_and, Bool.not_eq_true', decide_eq_false_iff_not] at h
    have h4 : n + 1 < t.length := by omega
    rw [getD_app h4] at h3
    exact hc ⟨h4, h2, h3⟩
   rw [if_neg hc] at h ⊢
   rw [if_neg hc']
   refine ⟨?_, hn⟩
   unfold intL at h ⊢
   rw [getD_app hn, decide_eq_true hn, decide_eq_true (lt_app u hn)]
   rw [decide_eq_true hn, Bool.true_and] at h
   dsimp only at h
   rw [Bool.true_and, Bool.true_and, h]
   by_cases h2 : (t.getD n 0).toNat = 46
   ·rw [decide_eq_true h2, Bool.true_and, Bool.not_eq_true', decide_eq_false_iff_not] at h
    rw [decide_eq_false (show ¬ n + 1 = (t ++ u).length by rw [List.length_append]; omega)]
    simp
   ·rw [decide_eq_false h2]
    rfl
 ·exfalso
  unfold numN intL at h
  rw [if_neg (fun h => by omega), decide_eq_false hn] at h
  cases h
theorem numberX_sure (t : List UInt8) (x : Nat × Int × Bool) : (numberX t x).sure = x.2.2 := by
 unfold numberX
 split <;> rfl
theorem number_stable (t u : List UInt8) (h : (numberI t).sure = true) : numberI (t ++ u) = numberI t := by
 unfold numberI at h ⊢
 rw [numberX_sure] at h
 obtain ⟨h1, h2⟩ := num_stable t u h
 rw [h1]
 unfold numberX
 rw [getD_app h2]
 by_cases hl : letB (t.getD (numL t).1 0) = true
 ·have c1 : (numL t).1 < t.length ∧ letB (t.getD (numL t).1 0) = true := ⟨h2, hl⟩
  have c2 : (numL t).1 < (t ++ u).length ∧ letB (t.getD (numL t).1 0) = true := ⟨lt_app u h2, hl⟩
  rw [if_pos c1, if_pos c2]
 ·rw [if_neg (fun h => hl h.2), if_neg (fun h => hl h.2)]
  unfold tokI
  rw [take_app (Nat.le_of_lt h2)]
theorem tick_stable (t u : List UInt8) (h : (tickI t).sure = true) : tickI (t ++ u) = tickI t := by
 unfold tickI at h ⊢
 by_cases h1 : (1 < t.length ∧ (plnB (t.getD 1 0) = false ∨ (t.getD 1 0).toNat = 39)) ∨ (2 < t.length ∧ ¬ (t.getD 2 0).toNat = 39)
 ·have h1' : (1 < (t ++ u).length ∧ (plnB ((t ++ u).getD 1 0) = false ∨ ((t ++ u).getD 1 0).toNat = 39)) ∨ (2 < (t ++ u).length ∧ ¬ ((t ++ u).getD 2 0).toNat = 39) := by
   rcases h1 with ⟨a, b⟩ | ⟨a, b⟩
   ·exact .inl ⟨lt_app u a, by rw [getD_app a]; exact b⟩
   ·exact .inr ⟨lt_app u a, by rw [getD_app a]; exact b⟩
  rw [if_pos h1, if_pos h1']
 ·rw [if_neg h1] at h
  by_cases h2 : t.length < 3
  ·rw [if_pos h2] at h
   cases h
  ·have h1' : ¬ ((1 < (t ++ u).length ∧ (plnB ((t ++ u).getD 1 0) = false ∨ ((t ++ u).getD 1 0).toNat = 39)) ∨ (2 < (t ++ u).length ∧ ¬ ((t ++ u).getD 2 0).toNat = 39)) := by
    rw [getD_app (show 1 < t.length by omega), getD_app (show 2 < t.length by omega)]
    rintro (⟨a, b⟩ | ⟨a, b⟩)
    ·exact h1 (.inl ⟨by omega, b⟩)
    ·exact h1 (.inr ⟨by omega, b⟩)
   rw [if_neg h1, if_neg h1', if_neg h2, if_neg (by rw [List.length_append]; omega), getD_app (show 1 < t.length by omega)]
theorem quote_stable (t u : List UInt8) (h0 : t ≠ []) (h : (quoteI t).sure = true) : quoteI (t ++ u) = quoteI t := by
 have hl : 1 ≤ t.length := List.length_pos_iff.2 h0
 unfold quoteI at h ⊢
 have hle := runL_le inqB (t.drop 1)
 rw [List.length_drop] at hle
 by_cases hn : 1 + runL inqB (t.drop 1) = t.length
 ·unfold quoteN at h
  rw [if_pos hn] at h
  cases h
 ·have hn' : 1 + runL inqB (t.drop 1) < t.length := by omega
  rw [drop_app hl, runL_app _ _ _ (by rw [List.length_drop]; omega)]
  unfold quoteN
  rw [if_neg hn, if_neg (by have := lt_app u hn'; omega), getD_app hn', take_app (Nat.le_of_lt hn')]
theorem endL_app (u : List UInt8) : ∀ (t : List UInt8) (n : Nat), endL t = some n → endL (t ++ u) = some n ∧ n + 2 ≤ t.length
 | [], n, h => by cases h
 | c :: r, n, h => by
  show (if c.toNat = 42 ∧ (r ++ u).head? = some 41 then some 0 else (endL (r ++ u)).map (· + 1)) = some n ∧ _
  unfold endL at h
  by_cases h1 : c.toNat = 42 ∧ r.head? = some 41
  ·rw [if_pos h1] at h
   cases h
   cases r with
   | nil => cases h1.2
   | cons d r =>
    rw [if_pos (show c.toNat = 42 ∧ (d :: r ++ u).head? = some 41 from h1)]
    exact ⟨rfl, by simp⟩
  ·rw [if_neg h1] at h
   cases he : endL r with
   | none => rw [he] at h; cases h
   | some m =>
    rw [he] at h
    cases h
    obtain ⟨h2, h3⟩ := endL_app u r m he
    cases r with
    | nil => cases he
    | cons d r =>
     rw [if_neg (show ¬ (c.toNat = 42 ∧ (d :: r ++ u).head? = some 41) from h1), h2]
     exact ⟨rfl, by simp at h3 ⊢; omega⟩
theorem note_stable (t u : List UInt8) (h : (noteI t).sure = true) : noteI (t ++ u) = noteI t := by
 unfold noteI at h ⊢
 cases he : endL (t.drop 2) with
 | none => rw [he] at h; cases h
 | some n =>
  have h2 : 2 ≤ t.length := by
   rcases Nat.lt_or_ge t.length 2 with h2 | h2
   ·rw [List.drop_of_length_le (by omega)] at he
    cases he
   ·exact h2
  rw [drop_app h2, (endL_app u _ n he).1]
theorem signL_spec (t : List UInt8) : ∀ n, signL t n ≤ n ∧ (signL t n = 0 ∨ t.take (signL t n) ∈ signsL) ∧ ∀ k, signL t n < k → k ≤ n → t.take k ∉ signsL
 | 0 => ⟨Nat.le_refl _, .inl rfl, fun k h1 h2 => by omega⟩
 | n + 1 => by
  unfold signL
  by_cases h : t.take (n + 1) ∈ signsL
  ·rw [if_pos h]
   exact ⟨Nat.le_refl _, .inr h, fun k h1 h2 => by omega⟩
  ·rw [if_neg h]
   obtain ⟨h1, h2, h3⟩ := signL_spec t n
   refine ⟨by omega, h2, fun k hk1 hk2 => ?_⟩
   rcases Nat.lt_or_ge n k with h4 | h4
   ·rw [show k = n + 1 by omega]
    exact h
   ·exact h3 k hk1 h4
theorem signL_unique (t : List UInt8) (n m : Nat) (hm : m ≤ n) (h1 : m = 0 ∨ t.take m ∈ signsL) (h2 : ∀ k, m < k → k ≤ n → t.take k ∉ signsL) : signL t n = m := by
 obtain ⟨a, b, c⟩ := signL_spec t n
 rcases Nat.lt_trichotomy (signL t n) m with h | h | h
 ·rcases h1 with h1 | h1
  ·omega
  ·exact absurd h1 (c m h hm)
 ·exact h
 ·rcases b with b | b
  ·omega
  ·exact absurd b (h2 _ h a)
theorem sign_stable (t u : List UInt8) (h0 : t ≠ []) (h : (signI t).sure = true) : signI (t ++ u) = signI t := by
 unfold signI at h ⊢
 have hl : 1 ≤ t.length := List.length_pos_iff.2 h0
 obtain ⟨a, b, c⟩ := signL_spec t (min 3 t.length)
 have hop : openL t (signL t (min 3 t.length)) = false := by
  unfold signN at h
  split at h
  ·simpa [badI] using h
  ·simpa [tokI] using h
 generalize signL t (min 3 t.length) = n at a b c hop ⊢
 have hopen : ∀ x ∈ signsL, t <+: x → x.length ≤ max n t.length := by
  intro x hx hp
  rcases Nat.lt_or_ge (max n t.length) x.length with h1 | h1
  ·exfalso
   unfold openL at hop
   rw [List.any_eq_false] at hop
   have := hop x (List.mem_append_left _ hx)
   rw [decide_eq_true h1, decide_eq_true hp] at this
   exact this rfl
  ·exact h1
 have e : signL (t ++ u) (min 3 (t ++ u).length) = n := by
  refine signL_unique _ _ _ (by rw [List.length_append]; omega) ?_ ?_
  ·rcases b with b | b
   ·exact .inl b
   ·exact .inr (by rw [take_app (by omega)]; exact b)
  ·intro k hk1 hk2 hm
   rw [List.length_append] at hk2
   rcases Nat.lt_or_ge t.length k with h1 | h1
   ·have hp : t <+: (t ++ u).take k := by
     rw [List.take_append, List.take_of_length_le (by omega)]
     exact List.prefix_append _ _
    have := hopen _ hm hp
    rw [List.length_take, List.length_append] at this
    omega
   ·rw [take_app h1] at hm
    exact c k hk1 (by have := (signs_short _ hm).2; rw [List.length_take] at this; omega) hm
 have e2 : openL (t ++ u) n = false := by
  unfold openL at hop ⊢
  rw [List.any_eq_false] at hop ⊢
  intro x hx hb
  rw [Bool.and_eq_true, decide_eq_true_eq, decide_eq_true_eq, List.length_append] at hb
  refine hop x hx ?_
  rw [Bool.and_eq_true, decide_eq_true_eq, decide_eq_true_eq]
  exact ⟨by omega, (List.prefix_append t u).trans hb.2⟩
 rw [e]
 unfold signN
 rw [e2, hop]
 unfold tokI
 rw [take_app (by omega)]
theorem class_stable (t u : List UInt8) (h0 : t ≠ []) (h : (itemL (classL t) t).sure = true) : classL (t ++ u) = classL t := by
 cases t with
 | nil => exact absurd rfl h0
 | cons c r =>
  cases r with
  | cons d r => rfl
  | nil =>
   cases u with
   | nil => rfl
   | cons d u =>
    show (if c.toNat = 40 ∧ (some d) = some 42 then (5 : Int) else _) = if c.toNat = 40 ∧ (none : Option UInt8) = some 42 then (5 : Int) else _
    rw [if_neg (show ¬ (c.toNat = 40 ∧ (none : Option UInt8) = some 42) from fun h => by cases h.2)]
    by_cases hc : c.toNat = 40
    ·exfalso
     obtain rfl : c = 40 := UInt8.toNat_inj.1 hc
     revert h
     decide
    ·rw [if_neg (fun h => hc h.1)]
theorem item_stable (t u : List UInt8) (h0 : t ≠ []) (h : (itemL (classL t) t).sure = true) : itemL (classL (t ++ u)) (t ++ u) = itemL (classL t) t := by
 rw [class_stable t u h0 h]
 generalize classL t = c at h ⊢
 unfold itemL at h ⊢
 by_cases c1 : c = 1
 ·rw [if_pos c1] at h ⊢
  rw [if_pos c1]
  exact letter_stable t u h
 ·rw [if_neg c1] at h ⊢
  rw [if_neg c1]
  by_cases c2 : c = 2
  ·rw [if_pos c2] at h ⊢
   rw [if_pos c2]
   exact number_stable t u h
  ·rw [if_neg c2] at h ⊢
   rw [if_neg c2]
   by_cases c3 : c = 3
   ·rw [if_pos c3] at h ⊢
    rw [if_pos c3]
    exact tick_stable t u h
   ·rw [if_neg c3] at h ⊢
    rw [if_neg c3]
    by_cases c4 : c = 4
    ·rw [if_pos c4] at h ⊢
     rw [if_pos c4]
     exact quote_stable t u h0 h
    ·rw [if_neg c4] at h ⊢
     rw [if_neg c4]
     by_cases c5 : c = 5
     ·rw [if_pos c5] at h ⊢
      rw [if_pos c5]
      exact note_stable t u h
     ·rw [if_neg c5] at h ⊢
      rw [if_neg c5]
      exact sign_stable t u h0 h
end Go.Proofs.YtniihjhlkpjnoaaDoor.Given
end
