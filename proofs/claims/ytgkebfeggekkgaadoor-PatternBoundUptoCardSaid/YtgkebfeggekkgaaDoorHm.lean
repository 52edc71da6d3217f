/- The contract of Print. -/
import Derived.Test.YtgkebfeggekkgaaDoorHl
import Derived.Test.YtgkebfeggekkgaaDoorHf
import Derived.Lib.ItoaLen
import Derived.Lib.Join
set_option linter.unusedVariables false
set_option linter.unusedSimpArgs false
namespace Go.Proofs.YtgkebfeggekkgaaDoor.Given
open Go.RowKit Go.Proofs.YtgkebfeggekkgaaDoor.PT Go.Proofs.YtgkebfeggekkgaaDoorW.PrintWords Go.Proofs.YtgkebfeggekkgaaDoorW.PrintLast Go.Proofs.YtgkebfeggekkgaaDoorW.PrintMore

def itoaS (n : Int) : ByteArray := ⟨(Lib.itoa n).toArray⟩
def inI (n : Int) : Bool := decide (-9223372036854775808 ≤ n) && decide (n ≤ 9223372036854775807)
theorem itoaS_size (n : Int) (h : inI n = true) : (itoaS n).size ≤ 21 := by
  simp only [inI, Bool.and_eq_true, decide_eq_true_eq] at h
  have := Lib.itoa_length_le n h.1 h.2
  simpa [itoaS, ByteArray.size] using this
theorem itoa_calls {w0 : World} (hG : LaidG w0) (n : Int) (h : inI n = true) (W : World) (hb : Below w0.heap.size w0 W) :
    Calls Tryd.prog 77 #[.int .i64 n] W fun e w' => e = .returned (.string (itoaS n)) ∧ Below W.heap.size W w' := by
  simp only [inI, Bool.and_eq_true, decide_eq_true_eq] at h
  exact (Tryd.strconv_Itoa n h.1 h.2 W (hG.keep W hb).1).mono fun e w' ⟨h1, k, os, h2⟩ => ⟨h1, by rw [h2]; exact Lib.below_grow _ _ (Nat.le_refl _) _ _⟩
/-- the text of one part -/
def partS (x : S31) : ByteArray := if x.f1 = 0 then itoaS x.f0 else itoaS x.f0 ++ (((⟨#[64]⟩ ++ itoaS x.f1) ++ ⟨#[46]⟩) ++ itoaS x.f2)
def inI3 (x : S31) : Bool := inI x.f0 && (inI x.f1 && inI x.f2)
theorem partS_size (x : S31) (h : inI3 x = true) : (partS x).size ≤ 65 := by
  simp only [inI3, Bool.and_eq_true] at h
  have h0 := itoaS_size _ h.1
  have h1 := itoaS_size _ h.2.1
  have h2 := itoaS_size _ h.2.2
  have e1 : (⟨#[64]⟩ : ByteArray).size = 1 := rfl
  have e2 : (⟨#[46]⟩ : ByteArray).size = 1 := rfl
  unfold partS
  split
  · omega
  · rw [ByteArray.size_append, ByteArray.size_append, ByteArray.size_append, ByteArray.size_append]
    omega
def printS (l : List S31) : ByteArray := if l = [] then ⟨#[111, 98, 106, 101, 99, 116]⟩ else ⟨(Lib.join ((l.map partS).map (fun x => x.data.toList)) [47]).toArray⟩
theorem lens_le : ∀ (xs : List (List UInt8)), (∀ x ∈ xs, x.length ≤ 65) → Lib.lens xs ≤ 65 * xs.length
  | [], _ => by simp [Lib.lens]
  | x :: r, h => by
    have h1 := lens_le r (fun y hy => h y (List.mem_cons_of_mem _ hy))
    have h2 := h x (List.mem_cons_self ..)
    unfold Lib.lens at h1 ⊢
    simp only [List.map_cons, List.sum_cons, List.length_cons]
    omega
theorem join_small (xs : List (List UInt8)) (h : ∀ x ∈ xs, x.length ≤ 65) (hl : xs.length ≤ 40) : (Lib.join xs [47]).length ≤ 140737488355328 := by
  cases xs with
  | nil => simp [Lib.join]
  | cons x r =>
    have := lens_le _ h
    rw [Lib.join_length]
    simp only [List.length_cons, List.length_nil] at this hl ⊢
    omega
theorem Rd.keep2 {g : Nat} {w W W' : World} {x u : Value} (h : Rd g w W x u) (hb : Below (g + 2) W W') : Rd g w W' x u := by
  obtain ⟨hB, c0, c1, f0, f1⟩ := h
  exact ⟨hB.trans (hb.mono (by omega)), (bcell hb (by omega)).trans c0, (bcell hb (by omega)).trans c1, (bfrozen hb (by omega)).trans f0, (bfrozen hb (by omega)).trans f1⟩
theorem gin76 : GuardIn 76 := fun args w => by simp [go_sem]
theorem res43 : DoorResults Tryd.f43 2 3 := by
  intro t W g x u h2 h3 c0 c1
  have hu9 := Tryd.underlying9
  have hu25 := Tryd.underlying25
  have e2 : t[2]?.getD undef = .pointer (some ⟨g, 0, none⟩) := by simpa [Array.getD_eq_getD_getElem?] using h2
  have e3 : t[3]?.getD undef = .pointer (some ⟨g + 1, 0, none⟩) := by simpa [Array.getD_eq_getD_getElem?] using h3
  simp [results, Tryd.results43, go_sem, e2, e3, c0, c1]
def StrPost (w : World) (s : ByteArray) (z : Int) (e : Ending) (w' : World) : Prop := e = .returned (.tuple #[.string s, .int .i64 z]) ∧ Below w.heap.size w w'
set_option maxRecDepth 100000 in
set_option maxHeartbeats 1000000 in
theorem print_bad (A : Option Addr) (c : Nat) (l : List S31) (w : World) (hr : Kd.C k31 w A l.length l) (hc : l.length ≤ c) (z : Int) (hz : checkL l = z) (h : ¬ z = 0) : Calls Tryd.prog 43 #[.slice A l.length c] w (StrPost w ⟨#[]⟩ z) := by
  have HV : Aside0 (Calls Tryd.prog 62 #[.slice (some ⟨w.heap.size + 1 + 1, 0, none⟩) 1 1] (((w.alloc (.cells #[.string ⟨#[]⟩] 9)).alloc (.cells #[.int .i64 0] 25)).alloc (.cells #[.slice A l.length c] 24)) fun e w' => e = .panicked (failE z) ∧ Rd w.heap.size w w' (.string ⟨#[]⟩) (.int .i64 0)) :=
    ⟨(valid1_bad (Kd.C_below hr (wD_below (.string ⟨#[]⟩) 9 w)) hc (g := w.heap.size + 1 + 1) (by simp [wD]) z hz h).mono fun e w' ⟨h1, h2⟩ => ⟨h1, Rd_of (t := 9) h2⟩⟩
  clear hz h hr
  go_enter_defers Tryd.func43, Tryd.ntmps43
  go_wp2_with (first | (go_at_call 62; (with_reducible refine HV.out.mono ?_); rintro e w1 ⟨rfl, hb1⟩))
  exact door_fails (fn := Tryd.f43) (p := 2) (q := 3) gin76 guardStr_fails res43 (fun w' hb => ⟨rfl, hb⟩) (Nat.le_refl _) hb1 rfl rfl rfl
set_option maxRecDepth 100000 in
set_option maxHeartbeats 1000000 in
theorem print_nil (A : Option Addr) (c : Nat) (w : World) (hr : Kd.C k31 w A 0 []) : Calls Tryd.prog 43 #[.slice A 0 c] w (StrPost w ⟨#[111, 98, 106, 101, 99, 116]⟩ 0) := by
  have HV : Aside0 (Calls Tryd.prog 62 #[.slice (some ⟨w.heap.size + 1 + 1, 0, none⟩) 1 1] (((w.alloc (.cells #[.string ⟨#[]⟩] 9)).alloc (.cells #[.int .i64 0] 25)).alloc (.cells #[.slice A 0 c] 24)) fun e w' => e = .returned (.tuple #[]) ∧ Rd w.heap.size w w' (.string ⟨#[]⟩) (.int .i64 0)) :=
    ⟨(valid1_ok (l0 := []) (Kd.C_below hr (wD_below (.string ⟨#[]⟩) 9 w)) (Nat.zero_le _) (g := w.heap.size + 1 + 1) (by simp [wD]) (by rfl)).mono fun e w' ⟨h1, h2⟩ => ⟨h1, Rd_of (t := 9) h2⟩⟩
  have hu9 := Tryd.underlying9
  have hu25 := Tryd.underlying25
  clear hr
  go_enter_defers Tryd.func43, Tryd.ntmps43
  go_wp2_with (first | (go_at_call 62; (with_reducible refine HV.out.mono ?_); rintro e w1 ⟨rfl, hb1⟩; have HB := Aside0.mk hb1; obtain ⟨_, d0, d1, g0, g1⟩ := hb1))
  exact door_stored (fn := Tryd.f43) (p := 2) (q := 3) gin76 guardStr_idle res43 HB.out (fun w' hb => ⟨rfl, hb⟩) rfl rfl rfl
theorem info9 : (Tryd.prog.info? 9).map (fun i => (i.zero, i.size, i.bytes)) = some (some (.string ⟨#[]⟩), 1, 16) := by kernel_rfl
theorem rdP (ls : List S31) (i : Nat) (h : i < ls.length) : rd_T31 ls (i : Int) = ls[i] := by
  unfold rd_T31
  simp [h]
theorem cells_str {w : World} {A : Option Addr} {xs : List ByteArray} (h : Kd.C Kd.string w A xs.length xs) (h0 : 0 < xs.length) :
    ∃ bk o, A = some ⟨bk, o, none⟩ ∧ bk < w.heap.size ∧ ∀ (j : Nat) x, xs[j]? = some x → w.cell? ⟨bk, o + j, none⟩ = some (.string x) := by
  obtain ⟨ad, e, hc⟩ := h.2.2 h0
  have hcell : ∀ (j : Nat) x, xs[j]? = some x → w.cell? (ad.add j) = some (.string x) := by
    intro j x hj
    obtain ⟨c, hl, hr, hx⟩ := hc j x hj
    have hr' : c = [Value.string x] := hr
    subst hr'
    have := hx 0 (.string x) rfl
    simpa [Kd.string, Kd.scalar] using this
  obtain ⟨b, o, sp⟩ := ad
  have h1 := hcell 0 xs[0] (List.getElem?_eq_getElem h0)
  have hlt := World.block_lt_of_cell? w _ h1
  simp only [Addr.add, if_true] at h1 hlt
  have hsp : sp = none := by
    cases sp with
    | none => rfl
    | some q =>
      unfold World.cell? at h1
      cases hb : w.heap[b]? with
      | none => simp [hb] at h1
      | some ob => cases ob <;> simp [hb] at h1
  subst hsp
  refine ⟨b, o, e, hlt, fun j x hj => ?_⟩
  have := hcell j x hj
  by_cases hj0 : j = 0
  · subst hj0; simpa [Addr.add] using this
  · simpa [Addr.add, hj0] using this
set_option maxRecDepth 100000 in
set_option maxHeartbeats 1000000 in
theorem print_ok (A : Option Addr) (c : Nat) (l : List S31) (w : World) (hG : LaidG w) (hr : Kd.C k31 w A l.length l) (hc : l.length ≤ c) (hz : checkL l = 0) (hne : 0 < l.length) (hi : l.all inI3 = true) :
    Calls Tryd.prog 43 #[.slice A l.length c] w (StrPost w ⟨(Lib.join ((l.map partS).map (fun x => x.data.toList)) [47]).toArray⟩ 0) := by
  have h40 := checkL_small hz
  have HR := Aside0.mk hr
  have HG := Aside0.mk hG
  have HI := Aside0.mk (List.all_eq_true.1 hi)
  have HV : Aside0 (Calls Tryd.prog 62 #[.slice (some ⟨w.heap.size + 1 + 1, 0, none⟩) 1 1] (((w.alloc (.cells #[.string ⟨#[]⟩] 9)).alloc (.cells #[.int .i64 0] 25)).alloc (.cells #[.slice A l.length c] 24)) fun e w' => e = .returned (.tuple #[]) ∧ Rd w.heap.size w w' (.string ⟨#[]⟩) (.int .i64 0)) :=
    ⟨(valid1_ok (Kd.C_below hr (wD_below (.string ⟨#[]⟩) 9 w)) hc (g := w.heap.size + 1 + 1) (by simp [wD]) hz).mono fun e w' ⟨h1, h2⟩ => ⟨h1, Rd_of (t := 9) h2⟩⟩
  have hu9 := Tryd.underlying9
  have hu25 := Tryd.underlying25
  have hu31 := Tryd.underlying31
  have hn0 : ((l.length : Int) == 0) = false := by rw [beq_eq_false_iff_ne]; omega
  have hn1 : (l.length == 0) = false := by rw [beq_eq_false_iff_ne]; omega
  clear hr hG hi hz
  go_enter_defers Tryd.func43, Tryd.ntmps43
  go_wp2_with (first | (go_at_call 62; (with_reducible refine HV.out.mono ?_); rintro e w1 ⟨rfl, hb1⟩; have HB := Aside0.mk hb1; clear hb1))
  have HR0 := Aside0.mk (Kd.R_nil Kd.string 9 w1 (w.heap.size + 2) (fun _ => True))
  have HB0 := Aside0.mk (Below.refl (w.heap.size + 2) w1)
  go_loopw [4, 16] (fun v i W => ∃ k : Nat, k ≤ l.length ∧ i = .int .i64 k ∧ Aside0 (Kd.R Kd.string 9 W (w.heap.size + 2) (fun _ => True) v ((l.take k).map partS)) ∧ Aside0 (Below (w.heap.size + 2) w1 W)) (fun _ i _ => l.length - (intOf i).toNat)
  case atStart => exact ⟨0, Nat.zero_le _, rfl, HR0, HB0⟩
  case round =>
    obtain ⟨k, hk, rfl, hR1, hB1⟩ := hrel
    have HRd := Aside0.mk (HB.out.keep2 hB1.out)
    have hsz : w.heap.size + 2 ≤ wr.heap.size := by have := World.block_lt_of_cell? wr _ HRd.out.2.2.1; simp only [] at this; omega
    by_cases hlt : k < l.length
    · obtain ⟨ad, rfl, hx0, hx1, hx2⟩ := at_T31 (Kd.C_below HR.out HRd.out.1) (k : Int) (by omega) (by omega)
      rw [Int.toNat_natCast] at hx0 hx1 hx2
      have hrd := rdP l k hlt
      have hin := HI.out _ (List.getElem_mem hlt)
      have htk : (l.take (k + 1)).map partS = (l.take k).map partS ++ [partS l[k]] := by rw [List.take_succ_eq_append_getElem hlt, List.map_append]; rfl
      have hlen : ((l.take k).map partS).length ≤ 40 := by rw [List.length_map, List.length_take]; omega
      generalize hgl : rd_T31 l (k : Int) = x at hx0 hx1 hx2 hrd
      rw [← hrd] at hin htk
      have HT := Aside0.mk htk
      have HLn := Aside0.mk hlen
      generalize (l.take k).map partS = xs at HT HLn hR1
      obtain ⟨f0, f1, f2⟩ := x
      dsimp only at hx0 hx1 hx2
      simp only [inI3, Bool.and_eq_true] at hin
      obtain ⟨i0, i1, i2⟩ := hin
      have hW1 : Below wr.heap.size wr (wr.alloc (.cells #[.int .i64 f0, .int .i64 f1, .int .i64 f2] 31)) := (Below.refl _ _).alloc (Nat.le_refl _) _
      have HD : Aside0 (∀ W, Below (wr.heap.size + 1) (wr.alloc (.cells #[.int .i64 f0, .int .i64 f1, .int .i64 f2] 31)) W → W.cell? ⟨wr.heap.size, 0, none⟩ = some (.int .i64 f0) ∧ W.cell? ⟨wr.heap.size, 1, none⟩ = some (.int .i64 f1) ∧ W.cell? ⟨wr.heap.size, 2, none⟩ = some (.int .i64 f2) ∧ wr.heap.size < W.heap.size ∧ Below wr.heap.size wr W) := ⟨fun W hb => by
        refine ⟨(bcell hb (by omega)).trans ?_, (bcell hb (by omega)).trans ?_, (bcell hb (by omega)).trans ?_, ?_, hW1.trans (hb.mono (by omega))⟩
        · simp [go_sem]
        · simp [go_sem]
        · simp [go_sem]
        · have := hb.size; simp at this; omega⟩
      have HI0 := Aside0.mk (fun W (hb : Below wr.heap.size wr W) => itoa_calls (HG.out.keep wr (HRd.out.1)) f0 i0 W hb)
      have HI1 := Aside0.mk (fun W (hb : Below wr.heap.size wr W) => itoa_calls (HG.out.keep wr (HRd.out.1)) f1 i1 W hb)
      have HI2 := Aside0.mk (fun W (hb : Below wr.heap.size wr W) => itoa_calls (HG.out.keep wr (HRd.out.1)) f2 i2 W hb)
      have z0 := itoaS_size f0 i0
      have z1 := itoaS_size f1 i1
      have z2 := itoaS_size f2 i2
      have HP : Aside0 (partS ⟨f0, f1, f2⟩ = if f1 = 0 then itoaS f0 else itoaS f0 ++ (((⟨#[64]⟩ ++ itoaS f1) ++ ⟨#[46]⟩) ++ itoaS f2)) := ⟨rfl⟩
      have HW1 := Aside0.mk hW1
      clear hgl hrd htk hlen i0 i1 i2 hW1
      generalize itoaS f0 = s0 at HI0 HP z0
      generalize itoaS f1 = s1 at HI1 HP z1
      generalize itoaS f2 = s2 at HI2 HP z2
      obtain ⟨A6, c6, rfl, hc6, _⟩ := Kd.R_reads hR1.out
      by_cases hf1 : f1 = 0
      · subst hf1
        have HT2 := Aside0.mk (show (l.take (k + 1)).map partS = xs ++ [s0] by rw [HT.out, HP.out, if_pos rfl])
        go_wp2_with (first | (go_at_call 77; (with_reducible refine (HI0.out _ HW1.out).mono ?_); rintro e w2 ⟨rfl, hb2⟩; have HB2 : Aside0 (Below (wr.heap.size + 1) _ w2) := ⟨hb2.mono (by simp)⟩; obtain ⟨e0, e1, e2, e3, hb3⟩ := HD.out w2 HB2.out; have HB3 := Aside0.mk hb3; clear hb2 hb3) | ((with_reducible refine gate_builtin (b := .append) (xs := #[.tmp 37, .tmp 39]) rfl ?_); at_builtin; refine Kd.R_append Kd.string (w0 := w1) (w.heap.size + 2) rfl (.tmp 37) (.tmp 39) 59 9 (.string ⟨#[]⟩) 16 rfl Tryd.underlying59 info9 rfl (by decide) (by omega) (.slice A6 xs.length c6) xs s0 [.string s0] (fun _ => True) (fun _ => False) rfl rfl ?aP (fun _ hk => hk.elim) ?aF ?aO ?aB ?aS ?aL ?_; (case aP => exact rfl); (case aB => exact hB1.out.trans (HB3.out.mono hsz)); (case aF => exact (fun _ _ => trivial)); (case aO => exact Kd.R_below hR1.out HB3.out); (case aS => have := HB3.out.size; omega); (case aL => have := HLn.out; omega); intro v1 w5 ho hb hg hat; rw [← HT2.out] at ho; have HO := Aside0.mk ho; have HB5 := Aside0.mk hb; clear ho hb hg hat))
        exact ⟨⟨k + 1, by omega, by first | rfl | simp, HO, HB5⟩, by simp [intOf]; omega⟩
      · have HT2 := Aside0.mk (show (l.take (k + 1)).map partS = xs ++ [s0 ++ (((⟨#[64]⟩ ++ s1) ++ ⟨#[46]⟩) ++ s2)] by rw [HT.out, HP.out, if_neg hf1])
        have hfn : (f1 != 0) = true := by simpa using hf1
        go_wp2_with (first | (go_at_call 77; (with_reducible refine (HI0.out _ HW1.out).mono ?_); rintro e w2 ⟨rfl, hb2⟩; have HB2 : Aside0 (Below (wr.heap.size + 1) _ w2) := ⟨hb2.mono (by simp)⟩; obtain ⟨e0, e1, e2, e3, hb3⟩ := HD.out w2 HB2.out; have HB3 := Aside0.mk hb3; clear hb2 hb3))
        have k1 : ¬ 9223372036854775807 < 1 + s1.size := by omega
        have k2 : ¬ 9223372036854775807 < 1 + s1.size + 1 := by omega
        have k3 : ¬ 9223372036854775807 < 1 + s1.size + 1 + s2.size := by omega
        have k4 : ¬ 9223372036854775807 < s0.size + (1 + s1.size + 1 + s2.size) := by omega
        have hS : Below (wr.heap.size + 1) (wr.alloc (.cells #[.int .i64 f0, .int .i64 f1, .int .i64 f2] 31)) w2.drew := below_drew HB2.out
        refine wp_region_noPanic ?_
        refine wp_region_held (S := fun W => Below (wr.heap.size + 1) (wr.alloc (.cells #[.int .i64 f0, .int .i64 f1, .int .i64 f2] 31)) W) (by kernel_rfl) ?_
        change wpAnyH _ _ _ _ _ _ _ _ w2.drew
        generalize w2.drew = W at hS ⊢
        refine wpAnyH_take (i := 0) (v := .string s0) rfl (by kernel_rfl) (by kernel_rfl) (by kernel_rfl) (fun _ _ _ h => h) (.inl ⟨by rfl, fun w' hw' => by obtain ⟨q0, q1, q2, q3, q4⟩ := HD.out w' hw'; go_simp⟩) hS ?_
        refine wpAnyH_take (i := 1) (v := .pointer (some ⟨wr.heap.size, 1, none⟩)) rfl (by kernel_rfl) (by kernel_rfl) (by kernel_rfl) (fun _ _ _ h => h) (.inl ⟨by rfl, fun w' hw' => by obtain ⟨q0, q1, q2, q3, q4⟩ := HD.out w' hw'; go_simp⟩) hS ?_
        refine wpAnyH_take (i := 2) (v := .int .i64 f1) rfl (by kernel_rfl) (by kernel_rfl) (by kernel_rfl) (fun _ _ _ h => h) (.inl ⟨by rfl, fun w' hw' => by obtain ⟨q0, q1, q2, q3, q4⟩ := HD.out w' hw'; go_simp⟩) hS ?_
        refine wpAnyH_take (i := 6) (v := .pointer (some ⟨wr.heap.size, 2, none⟩)) rfl (by kernel_rfl) (by kernel_rfl) (by kernel_rfl) (fun _ _ _ h => h) (.inl ⟨by rfl, fun w' hw' => by obtain ⟨q0, q1, q2, q3, q4⟩ := HD.out w' hw'; go_simp⟩) hS ?_
        refine wpAnyH_take (i := 7) (v := .int .i64 f2) rfl (by kernel_rfl) (by kernel_rfl) (by kernel_rfl) (fun _ _ _ h => h) (.inl ⟨by rfl, fun w' hw' => by obtain ⟨q0, q1, q2, q3, q4⟩ := HD.out w' hw'; go_simp⟩) hS ?_
        refine wpAnyH_all (rs := [3]) (by kernel_rfl) (by simp) ?_
        intro i hi
        obtain rfl : i = 3 := by simpa using hi
        refine wpOp_of rfl (by rfl) ?_
        go_simp
        refine (HI1.out _ (HD.out _ hS).2.2.2.2).mono ?_
        rintro e w3 ⟨rfl, hb3⟩
        replace hS : Below (wr.heap.size + 1) (wr.alloc (.cells #[.int .i64 f0, .int .i64 f1, .int .i64 f2] 31)) w3 := hS.trans (hb3.mono (HD.out _ hS).2.2.2.1)
        refine ⟨hS, ?_⟩
        refine wpAnyH_take (i := 4) (v := .string (⟨#[64]⟩ ++ s1)) rfl (by kernel_rfl) (by kernel_rfl) (by kernel_rfl) (fun _ _ _ h => h) (.inl ⟨by rfl, fun w' hw' => by obtain ⟨q0, q1, q2, q3, q4⟩ := HD.out w' hw'; go_simp⟩) hS ?_
        refine wpAnyH_take (i := 5) (v := .string ((⟨#[64]⟩ ++ s1) ++ ⟨#[46]⟩)) rfl (by kernel_rfl) (by kernel_rfl) (by kernel_rfl) (fun _ _ _ h => h) (.inl ⟨by rfl, fun w' hw' => by obtain ⟨q0, q1, q2, q3, q4⟩ := HD.out w' hw'; go_simp⟩) hS ?_
        refine wpAnyH_all (rs := [8]) (by kernel_rfl) (by simp) ?_
        intro i hi
        obtain rfl : i = 8 := by simpa using hi
        refine wpOp_of rfl (by rfl) ?_
        go_simp
        refine (HI2.out _ (HD.out _ hS).2.2.2.2).mono ?_
        rintro e w4 ⟨rfl, hb8⟩
        replace hS : Below (wr.heap.size + 1) (wr.alloc (.cells #[.int .i64 f0, .int .i64 f1, .int .i64 f2] 31)) w4 := hS.trans (hb8.mono (HD.out _ hS).2.2.2.1)
        refine ⟨hS, ?_⟩
        refine wpAnyH_take (i := 9) (v := .string (((⟨#[64]⟩ ++ s1) ++ ⟨#[46]⟩) ++ s2)) rfl (by kernel_rfl) (by kernel_rfl) (by kernel_rfl) (fun _ _ _ h => h) (.inl ⟨by rfl, fun w' hw' => by obtain ⟨q0, q1, q2, q3, q4⟩ := HD.out w' hw'; go_simp⟩) hS ?_
        refine wpAnyH_take (i := 10) (v := .string (s0 ++ (((⟨#[64]⟩ ++ s1) ++ ⟨#[46]⟩) ++ s2))) rfl (by kernel_rfl) (by kernel_rfl) (by kernel_rfl) (fun _ _ _ h => h) (.inl ⟨by rfl, fun w' hw' => by obtain ⟨q0, q1, q2, q3, q4⟩ := HD.out w' hw'; go_simp⟩) hS ?_
        refine wpAnyH_take (i := 11) (v := .string (s0 ++ (((⟨#[64]⟩ ++ s1) ++ ⟨#[46]⟩) ++ s2))) rfl (by kernel_rfl) (by kernel_rfl) (by kernel_rfl) (fun _ _ _ h => h) (.inl ⟨by rfl, fun w' hw' => by obtain ⟨q0, q1, q2, q3, q4⟩ := HD.out w' hw'; go_simp⟩) hS ?_
        refine wpAnyH_done (by kernel_rfl) (NoPanic.normal ?_) _
        have HB4 := Aside0.mk (HD.out _ hS).2.2.2.2
        obtain ⟨ss, hss⟩ : ∃ S : ByteArray, S = s0 ++ (((⟨#[64]⟩ ++ s1) ++ ⟨#[46]⟩) ++ s2) := ⟨_, rfl⟩
        rw [← hss] at HT2 ⊢
        clear hss hS hb3 hb8
        go_wp2_with (first | ((with_reducible refine gate_builtin (b := .append) (xs := #[.tmp 37, .tmp 39]) rfl ?_); at_builtin; refine Kd.R_append Kd.string (w0 := w1) (w.heap.size + 2) rfl (.tmp 37) (.tmp 39) 59 9 (.string ⟨#[]⟩) 16 rfl Tryd.underlying59 info9 rfl (by decide) (by omega) (.slice A6 xs.length c6) xs ss [.string ss] (fun _ => True) (fun _ => False) rfl rfl ?aP (fun _ hk => hk.elim) ?aF ?aO ?aB ?aS ?aL ?_; (case aP => exact rfl); (case aB => exact hB1.out.trans (HB4.out.mono hsz)); (case aF => exact (fun _ _ => trivial)); (case aO => exact Kd.R_below hR1.out HB4.out); (case aS => have := HB4.out.size; omega); (case aL => have := HLn.out; omega); intro v1 w5 ho hb hg hat; rw [← HT2.out] at ho; have HO := Aside0.mk ho; have HB5 := Aside0.mk hb; clear ho hb hg hat))
        exact ⟨⟨k + 1, by omega, by first | rfl | simp, HO, HB5⟩, by simp [intOf]; omega⟩
    · have hke : k = l.length := by omega
      subst hke
      rw [List.take_length] at hR1
      have HI2 := Aside0.mk (fun x hx => partS_size x (HI.out x hx))
      have hml : (l.map partS).length = l.length := List.length_map ..
      obtain ⟨A6, c6, hv, hc6, hC⟩ := Kd.R_reads hR1.out
      obtain ⟨bk, o, hA, hbk, hcell⟩ := cells_str hC (by omega)
      have hj := Tryd.strings_Join bk o c6 (l.map partS) ⟨#[47]⟩ wr hcell hbk (by omega) hc6 (join_small _ (by
          intro x hx
          simp only [List.mem_map] at hx
          obtain ⟨b, ⟨y, hy, rfl⟩, rfl⟩ := hx
          show (partS y).data.toList.length ≤ 65
          rw [Array.length_toList]
          exact HI2.out y hy) (by simp; omega))
      rw [hml] at hj hv
      have HJ : Aside0 (Calls Tryd.prog 78 #[.slice (some ⟨bk, o, none⟩) l.length c6, .string ⟨#[47]⟩] wr fun e w' => e = .returned (.string ⟨(Lib.join ((l.map partS).map (fun x => x.data.toList)) [47]).toArray⟩) ∧ Rd w.heap.size w w' (.string ⟨#[]⟩) (.int .i64 0)) :=
        ⟨hj.mono fun e w' ⟨h1, h2⟩ => ⟨h1, HRd.out.keep h2 (Nat.le_refl _)⟩⟩
      subst hA
      subst hv
      clear hj hcell hC
      generalize hjs : (⟨(Lib.join ((l.map partS).map (fun x => x.data.toList)) [47]).toArray⟩ : ByteArray) = js at HJ
      have HJS := Aside0.mk hjs
      clear hml hjs
      go_wp2_with (first | (go_at_call 78; (with_reducible refine HJ.out.mono ?_); rintro e w2 ⟨rfl, hb1⟩; have HBz := Aside0.mk hb1; obtain ⟨_, d0, d1, g0, g1⟩ := hb1))
      rw [HJS.out]
      exact door_stored (fn := Tryd.f43) (p := 2) (q := 3) gin76 guardStr_idle res43 HBz.out (fun w' hb => ⟨rfl, hb⟩) rfl rfl rfl
def pattern_Print.f (l : List S31) : Option (ByteArray × Int) := if checkL l = 0 then (if l.all inI3 = true then some (printS l, 0) else none) else some (⟨#[]⟩, checkL l)
theorem pattern_Print.calls (A0 : Option Addr) (c0 : Nat) (l0 : List S31) (r1 : ByteArray) (r2 : Int) (w : World) (hG : LaidG w) (hr0 : Kd.C k31 w A0 l0.length l0) (hc0 : l0.length ≤ c0) (h : pattern_Print.f l0 = some (r1, r2)) :
    Calls Tryd.prog 43 #[.slice A0 l0.length c0] w fun e w' => e = .returned (.tuple #[.string r1, .int .i64 r2]) ∧ Below w.heap.size w w' := by
  unfold pattern_Print.f at h
  by_cases hz : checkL l0 = 0
  · rw [if_pos hz] at h
    by_cases hi : l0.all inI3 = true
    · rw [if_pos hi] at h
      cases h
      unfold printS
      by_cases h0 : l0 = []
      · subst h0
        rw [if_pos rfl]
        exact print_nil A0 c0 w hr0
      · rw [if_neg h0]
        exact print_ok A0 c0 l0 w hG hr0 hc0 hz (List.length_pos_iff.2 h0) hi
    · rw [if_neg hi] at h
      cases h
  · rw [if_neg hz] at h
    cases h
    exact print_bad A0 c0 l0 w hr0 hc0 _ rfl hz
def strconv_Itoa.f (n : Int) : Option ByteArray := if inI n = true then some (itoaS n) else none
theorem strconv_Itoa.calls (n : Int) (r : ByteArray) (w : World) (hG : LaidG w) (h : strconv_Itoa.f n = some r) : Calls Tryd.prog 77 #[.int .i64 n] w fun e w' => e = .returned (.string r) ∧ Below w.heap.size w w' := by
  unfold strconv_Itoa.f at h
  split at h
  · rename_i hi
    cases h
    exact itoa_calls hG n hi w (Below.refl _ _)
  · cases h
end Go.Proofs.YtgkebfeggekkgaaDoor.Given
