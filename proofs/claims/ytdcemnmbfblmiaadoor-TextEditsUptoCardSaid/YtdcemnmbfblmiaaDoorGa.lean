/- The contracts of the functions of Go's library that package text calls, and of text.valid: each call returns what the plain function says, and leaves all older memory as it was. -/
import Derived.Test.YtdcemnmbfblmiaaDoorShelf
import Derived.Test.YtdcemnmbfblmiaaDoorFns
import Derived.Test.YtdcemnmbfblmiaaDoorWWords
import Derived.Test.YtdcemnmbfblmiaaDoorWMore
import Derived.WalkKit
import Derived.WalkLawsBesides
import Derived.WalkSpells
set_option linter.unusedVariables false
set_option linter.unusedSimpArgs false
namespace Go.Proofs.YtdcemnmbfblmiaaDoor.Given
open Go.RowKit Go.Proofs.YtdcemnmbfblmiaaDoorW.PrintWords Go.Proofs.YtdcemnmbfblmiaaDoorW.PrintLast Go.Proofs.YtdcemnmbfblmiaaDoorW.PrintMore

theorem strings_Compare.calls (a0 a1 : ByteArray) (r : Int) (w : World) (h : strings_Compare.f a0 a1 = some r) :
    Calls Tryd.prog 58 #[.string a0, .string a1] w fun e w' => e = .returned (.int .i64 r) ∧ Below w.heap.size w w' := by
  cases h
  exact (Tryd.strings_Compare a0 a1 w).mono fun e w' ⟨he, hw⟩ => ⟨he, hw ▸ Below.refl _ _⟩
theorem strings_Index.calls (a0 a1 : ByteArray) (r : Int) (w : World) (hG : LaidG w) (h : strings_Index.f a0 a1 = some r) :
    Calls Tryd.prog 59 #[.string a0, .string a1] w fun e w' => e = .returned (.int .i64 r) ∧ Below w.heap.size w w' := by
  unfold strings_Index.f at h
  split at h
  · cases h
    obtain ⟨_, m, hm⟩ := hG
    exact (Tryd.strings_Index a0 a1 m w ‹_› hm).mono fun e w' ⟨he, hw⟩ => ⟨he, hw ▸ Below.refl _ _⟩
  · cases h
theorem strings_IndexByte.calls (a0 : ByteArray) (a1 : Int) (r : Int) (w : World) (h : strings_IndexByte.f a0 a1 = some r) :
    Calls Tryd.prog 74 #[.string a0, .int .u8 a1] w fun e w' => e = .returned (.int .i64 r) ∧ Below w.heap.size w w' := by
  cases h
  exact (Tryd.strings_IndexByte a0 a1 w).mono fun e w' ⟨he, hw⟩ => ⟨he, hw ▸ Below.refl _ _⟩
theorem one_byte (s : ByteArray) (h : s.size = 1) : s = ⟨#[s.data.toList.getD 0 0]⟩ := by
  obtain ⟨⟨l⟩⟩ := s
  match l, h with
  | [b], _ => rfl
theorem strings_Count.calls (a0 a1 : ByteArray) (r : Int) (w : World) (h : strings_Count.f a0 a1 = some r) :
    Calls Tryd.prog 72 #[.string a0, .string a1] w fun e w' => e = .returned (.int .i64 r) ∧ Below w.heap.size w w' := by
  unfold strings_Count.f at h
  split at h
  · rename_i h1
    cases h
    have h2 := Tryd.strings_Count_one a0 (a1.data.toList.getD 0 0) w
    rw [← one_byte a1 h1] at h2
    exact h2.mono fun e w' ⟨he, hw⟩ => ⟨he, hw ▸ Below.refl _ _⟩
  · cases h
/-- the cells of a row of strings -/
theorem cells_of_C {w : World} {A : Option Addr} {xs : List ByteArray} (h : Kd.C Kd.string w A xs.length xs) (h0 : 0 < xs.length) :
    ∃ bk o, A = some ⟨bk, o, none⟩ ∧ bk < w.heap.size ∧ ∀ (j : Nat) x, xs[j]? = some x → w.cell? ⟨bk, o + j, none⟩ = some (.string x) := by
  obtain ⟨ad, e, hc⟩ := h.2.2 h0
  have hcell : ∀ (j : Nat) x, xs[j]? = some x → w.cell? (ad.add j) = some (.string x) := by
    intro j x hj
    obtain ⟨c, hl, hr, hx⟩ := hc j x hj
    have hr' : c = [Value.string x] := hr
    subst hr'
    have := hx 0 (.string x) rfl
    simpa [Kd.string, Kd.scalar] using this
  obtain ⟨b, o, sp⟩ := ad
  have h1 := hcell 0 xs[0] (List.getElem?_eq_getElem h0)
  have hlt := World.block_lt_of_cell? w _ h1
  simp only [Addr.add, if_true] at h1 hlt
  have hsp : sp = none := by
    cases sp with
    | none => rfl
    | some q =>
      unfold World.cell? at h1
      cases hb : w.heap[b]? with
      | none => simp [hb] at h1
      | some ob => cases ob <;> simp [hb] at h1
  subst hsp
  refine ⟨b, o, e, hlt, fun j x hj => ?_⟩
  have := hcell j x hj
  by_cases hj0 : j = 0
  · subst hj0; simpa [Addr.add] using this
  · simpa [Addr.add, hj0] using this
theorem strings_Join.calls (A0 : Option Addr) (c0 : Nat) (l0 : List ByteArray) (a1 : ByteArray) (r : ByteArray) (w : World) (hr0 : Kd.C Kd.string w A0 l0.length l0) (hc0 : l0.length ≤ c0) (h : strings_Join.f l0 a1 = some r) :
    Calls Tryd.prog 61 #[.slice A0 l0.length c0, .string a1] w fun e w' => e = .returned (.string r) ∧ Below w.heap.size w w' := by
  unfold strings_Join.f at h
  split at h
  · rename_i hb
    cases h
    by_cases h0 : 0 < l0.length
    · obtain ⟨bk, o, rfl, hbk, hcell⟩ := cells_of_C hr0 h0
      exact Tryd.strings_Join bk o c0 l0 a1 w hcell hbk (by omega) hc0 (by have := hb.1; unfold joinL at this; omega)
    · obtain rfl : l0 = [] := by cases l0 <;> simp_all
      exact (Tryd.strings_Join_none A0 c0 a1 w).mono fun e w' ⟨he, hw⟩ => ⟨he, hw ▸ Below.refl _ _⟩
  · cases h

/-! ### text.valid -/
theorem valid1_calls (s : ByteArray) (w : World) :
    Calls Tryd.prog 80 #[.string s] w fun e w' => e = .returned (.bool (!decide (s.size ≤ 4000))) ∧ w = w' := by
  by_cases hs : s.size ≤ 4000
  · have h1 : decide ((s.size : Int) ≤ 4000) = true := decide_eq_true (by omega)
    have h2 : decide (s.size ≤ 4000) = true := decide_eq_true hs
    go_enter Tryd.func80, Tryd.ntmps80
    go_wp2
    go_ret
    exact ⟨by simp [hs], rfl⟩
  · have h1 : decide ((s.size : Int) ≤ 4000) = false := decide_eq_false (by omega)
    have h2 : decide (s.size ≤ 4000) = false := decide_eq_false hs
    go_enter Tryd.func80, Tryd.ntmps80
    go_wp2
    go_ret
    exact ⟨by simp [hs], rfl⟩
def AllV (l : List ByteArray) : Prop := (l.all fun s => decide (s.size ≤ 4000)) = true
theorem allV_take_succ {l : List ByteArray} {k : Nat} (hk : k < l.length) (h : AllV (l.take k)) (hx : (rdOf ByteArray.empty l (k : Int)).size ≤ 4000) : AllV (l.take (k + 1)) := by
  unfold AllV at *
  rw [List.take_succ_eq_append_getElem hk, List.all_append, h]
  have : rdOf ByteArray.empty l (k : Int) = l[k] := by
    unfold rdOf
    simp [hk]
  rw [this] at hx
  simp [hx]
theorem not_allV {l : List ByteArray} {k : Nat} (hk : k < l.length) (hx : ¬ (rdOf ByteArray.empty l (k : Int)).size ≤ 4000) : ¬ AllV l := by
  intro h
  unfold AllV at h
  rw [List.all_eq_true] at h
  have h1 := h l[k] (List.getElem_mem hk)
  have : rdOf ByteArray.empty l (k : Int) = l[k] := by
    unfold rdOf
    simp [hk]
  rw [this] at hx
  simp [hx] at h1
def IdxPost (l : List ByteArray) (w : World) (e : Ending) (w' : World) : Prop := ∃ i : Int, e = .returned (.int .i64 i) ∧ (0 ≤ i ↔ ¬ AllV l) ∧ w = w'
set_option maxHeartbeats 1000000 in
theorem indexFunc_calls (A0 : Option Addr) (c0 : Nat) (l0 : List ByteArray) (w : World) (hr0 : Kd.C Kd.string w A0 l0.length l0) (hl : l0.length ≤ 9223372036854775807) :
    Calls Tryd.prog 91 #[.slice A0 l0.length c0, .func (.func 80) #[] #[]] w (IdxPost l0 w) := by
  have HR := Aside0.mk hr0
  clear hr0
  go_enter Tryd.func91, Tryd.ntmps91
  go_wp2
  go_loop [8] (fun v8 => ∃ k : Nat, k ≤ l0.length ∧ v8 = .int .i64 k ∧ Aside0 (AllV (l0.take k))) (fun v8 => l0.length - (intOf v8).toNat)
  case atStart => exact ⟨0, Nat.zero_le _, rfl, ⟨by simp [AllV]⟩⟩
  case round =>
    obtain ⟨k, hk, rfl, hA⟩ := hrel
    by_cases hlt : k < l0.length
    · obtain ⟨ad, e1, hx⟩ := Kd.at_string HR.out (k : Int) (by omega) (by omega)
      cases e1
      rw [Int.toNat_natCast] at hx
      by_cases hs : (rdOf ByteArray.empty l0 (k : Int)).size ≤ 4000
      · have hs2 := Aside0.mk hs
        have hd : (!decide ((rdOf ByteArray.empty l0 (k : Int)).size ≤ 4000)) = false := by simp [hs]
        clear hs
        go_wp2_with (first | (go_at_call 80; refine (valid1_calls _ _).mono ?_; rintro e w' ⟨rfl, rfl⟩))
        go_round
        case rel => exact ⟨k + 1, by omega, by go_num, ⟨allV_take_succ hlt hA.out hs2.out⟩⟩
        case measure => simp [intOf]; omega
      · have hs2 := Aside0.mk hs
        have hd : (!decide ((rdOf ByteArray.empty l0 (k : Int)).size ≤ 4000)) = true := by simp [hs]
        clear hs
        go_wp2_with (first | (go_at_call 80; refine (valid1_calls _ _).mono ?_; rintro e w' ⟨rfl, rfl⟩))
        go_ret
        exact ⟨k, rfl, ⟨fun _ => not_allV hlt hs2.out, fun _ => by omega⟩, rfl⟩
    · have hke : k = l0.length := by omega
      have hA2 : AllV l0 := by have := hA.out; rw [hke, List.take_length] at this; exact this
      have HA := Aside0.mk hA2
      clear hke hA2
      go_wp2
      go_ret
      exact ⟨-1, rfl, ⟨fun h => absurd h (by decide), fun h => absurd HA.out h⟩, rfl⟩
set_option maxHeartbeats 1000000 in
theorem containsFunc_calls (A0 : Option Addr) (c0 : Nat) (l0 : List ByteArray) (w : World) (hr0 : Kd.C Kd.string w A0 l0.length l0) (hl : l0.length ≤ 9223372036854775807) :
    Calls Tryd.prog 79 #[.slice A0 l0.length c0, .func (.func 80) #[] #[]] w fun e w' => e = .returned (.bool (!(l0.all fun s => decide (s.size ≤ 4000)))) ∧ w = w' := by
  have HC := Aside0.mk (indexFunc_calls A0 c0 l0 w hr0 hl)
  clear hr0
  generalize hb : (l0.all fun s => decide (s.size ≤ 4000)) = b
  have hV : Aside0 (AllV l0 ↔ b = true) := ⟨by unfold AllV; rw [hb]⟩
  clear hb
  cases b with
  | true =>
    go_enter Tryd.func79, Tryd.ntmps79
    go_wp2_with (first | (go_at_call 91; refine HC.out.mono ?_; rintro e w' ⟨i, rfl, hi, rfl⟩; (have hi' : decide (0 ≤ i) = false := decide_eq_false (fun h => (hi.1 h) (hV.out.2 rfl))); clear hi))
    go_ret
    exact ⟨rfl, rfl⟩
  | false =>
    go_enter Tryd.func79, Tryd.ntmps79
    go_wp2_with (first | (go_at_call 91; refine HC.out.mono ?_; rintro e w' ⟨i, rfl, hi, rfl⟩; (have hi' : decide (0 ≤ i) = true := decide_eq_true (hi.2 (fun h => by have := hV.out.1 h; cases this))); clear hi))
    go_ret
    exact ⟨rfl, rfl⟩
set_option maxHeartbeats 1000000 in
theorem text_valid.calls (A0 : Option Addr) (c0 : Nat) (l0 : List ByteArray) (r : Bool) (w : World) (hr0 : Kd.C Kd.string w A0 l0.length l0) (hc0 : l0.length ≤ c0) (h : text_valid.f l0 = some r) :
    Calls Tryd.prog 55 #[.slice A0 l0.length c0] w fun e w' => e = .returned (.bool r) ∧ Below w.heap.size w w' := by
  have hl : l0.length ≤ 9223372036854775807 := hr0.2.1
  have HC := Aside0.mk (containsFunc_calls A0 c0 l0 w hr0 hl)
  cases h
  clear hr0 hl hc0
  generalize (l0.all fun s => decide (s.size ≤ 4000)) = b at HC ⊢
  go_enter Tryd.func55, Tryd.ntmps55
  go_wp2_with (first | (go_at_call 79; refine HC.out.mono ?_; rintro e w' ⟨rfl, rfl⟩))
  go_ret
  exact ⟨by cases b <;> rfl, Below.refl _ _⟩
end Go.Proofs.YtdcemnmbfblmiaaDoor.Given
