/- The contract of the reference's Show: it returns the shown text and leaves all older memory as it was. -/
import Derived.Test.YtdcemnmbfblmiaaDoorGf
set_option linter.unusedVariables false
set_option linter.unusedSimpArgs false
namespace Go.Proofs.YtdcemnmbfblmiaaDoor.Given
open Go.RowKit Go.Proofs.YtdcemnmbfblmiaaDoorW.PrintWords Go.Proofs.YtdcemnmbfblmiaaDoorW.PrintLast Go.Proofs.YtdcemnmbfblmiaaDoorW.PrintMore

theorem rplain_calls (b : Int) (w : World) : Calls Tryd.prog 71 #[.int .u8 b] w fun e w' => e = .returned (.bool (decide (33 ≤ b) && decide (b ≤ 126) && !decide (b = 37))) ∧ w = w' := by
  go_enter Tryd.func71, Tryd.ntmps71
  go_wp2
  all_goals go_ret
  all_goals exact ⟨by simp [*]; try (first | rfl | omega | (intros; omega)), rfl⟩
theorem rplainB_calls (b : UInt8) (w : World) : Calls Tryd.prog 71 #[.int .u8 b.toNat] w fun e w' => e = .returned (.bool (plainB b)) ∧ w = w' := by
  refine (rplain_calls b.toNat w).mono ?_
  rintro e w' ⟨rfl, rfl⟩
  refine ⟨?_, rfl⟩
  have e1 : decide ((33 : Int) ≤ (b.toNat : Int)) = decide (33 ≤ b.toNat) := decide_eq_decide.2 (by omega)
  have e2 : decide ((b.toNat : Int) ≤ 126) = decide (b.toNat ≤ 126) := decide_eq_decide.2 (by omega)
  have e3 : (!decide ((b.toNat : Int) = 37)) = decide (b.toNat ≠ 37) := by rw [decide_not]; congr 1; exact decide_eq_decide.2 (by omega)
  unfold plainB
  rw [e1, e2, e3]
/-- the digits, as the reference holds them -/
def dstr : ByteArray := ⟨#[48, 49, 50, 51, 52, 53, 54, 55, 56, 57, 65, 66, 67, 68, 69, 70]⟩
theorem rdig_at (x : Nat) (hx : x < 16) (W : World) : (Instr.index 9 (.string dstr) (.int .u8 x)).run Tryd.prog W = .ok (.int .u8 (digs.getD x 0).toNat) W := by
  rw [run_index_string _ _ _ _ _ Tryd.underlying9]
  have h1 : (0 : Int) ≤ (x : Int) ∧ (x : Int) < (dstr.size : Int) := ⟨by omega, by show (x : Int) < 16; omega⟩
  rw [dif_pos h1]
  rcases (show x = 0 ∨ x = 1 ∨ x = 2 ∨ x = 3 ∨ x = 4 ∨ x = 5 ∨ x = 6 ∨ x = 7 ∨ x = 8 ∨ x = 9 ∨ x = 10 ∨ x = 11 ∨ x = 12 ∨ x = 13 ∨ x = 14 ∨ x = 15 by omega) with rfl | rfl | rfl | rfl | rfl | rfl | rfl | rfl | rfl | rfl | rfl | rfl | rfl | rfl | rfl | rfl <;> rfl
theorem rbyte_at (s : ByteArray) (k : Nat) (hk : k < s.size) (W : World) : (Instr.index 9 (.string s) (.int .i64 k)).run Tryd.prog W = .ok (.int .u8 (s.data.toList.getD k 0).toNat) W := by
  rw [run_index_string _ _ _ _ _ Tryd.underlying9]
  rw [dif_pos ⟨by omega, by omega⟩]
  simp [List.getD_eq_getElem?_getD, hk, ByteArray.getElem_eq_getElem_data]
set_option maxRecDepth 100000 in
set_option maxHeartbeats 1000000 in
theorem rshow_calls (s : ByteArray) (w : World) (hs : s.size ≤ 1000000000) :
    Calls Tryd.prog 40 #[.string s] w fun e w' => e = .returned (.string (ba (showL s.data.toList))) ∧ Below w.heap.size w w' := by
  obtain ⟨i0, hi, hz0, hz1, hz2⟩ := info_parts info5
  go_enter Tryd.func40, Tryd.ntmps40
  go_wp2
  go_loopw [4, 5] (fun v i wr => ∃ k : Nat, k ≤ s.size ∧ i = .int .i64 k ∧ Aside0 (wr.ownsRow w.heap.size 5 1 v (showL (s.data.toList.take k)).length (bc (showL (s.data.toList.take k)))) ∧ Aside0 (Below w.heap.size w wr))
    (fun _ i _ => s.size - (intOf i).toNat)
  case atStart => exact ⟨0, Nat.zero_le _, rfl, ⟨World.ownsRow_nil _ _ _ _⟩, ⟨Below.refl _ _⟩⟩
  case round =>
    obtain ⟨k, hk, rfl, hown, hbel⟩ := hrel
    have hsize := hbel.out.size
    by_cases hlt : k < s.size
    · have hlt2 : k < s.data.toList.length := by simpa using hlt
      have hlen := showL_len (s.data.toList.take k)
      have hlen2 : (s.data.toList.take k).length ≤ 1000000000 := by rw [List.length_take]; omega
      have hix := rbyte_at s k hlt
      have hsn := Aside0.mk (showL_snoc s.data.toList k hlt2)
      generalize s.data.toList.getD k 0 = b at hix hsn
      by_cases hp : plainB b = true
      · have hsb := Aside0.mk (show showB b = [b] by unfold showB; rw [hp]; rfl)
        go_wp2_with (first
          | (go_at_call 71; refine (rplainB_calls _ _).mono ?_; rintro e w' ⟨rfl, rfl⟩)
          | (at_builtin; refine wpList_append_own _ rfl _ _ 57 rfl w.heap.size 5 i0 (.int .u8 0) 1 1 Tryd.underlying57 hi hz0 hz1 hz2 rfl (by decide) _ _ _ rfl (hown.out.alloc _) ⟨wr.heap.size, 0, none⟩ 1 1 (bc [b]) rfl rfl (cell_one_new _ _ _) one_u8 (by unfold maxLen; omega) (by omega) (by simp; omega) ?_; intro v' w3 hown' hgrow3 hnil3))
        clear hnil3
        have hrow := (hsn.out ▸ by rw [hsb.out, List.length_append, bc_append]; exact hown' : w3.ownsRow w.heap.size 5 1 v' (showL (s.data.toList.take (k + 1))).length (bc (showL (s.data.toList.take (k + 1)))))
        exact ⟨⟨k + 1, by omega, by first | rfl | simp, ⟨hrow⟩, ⟨(hbel.out.alloc (by omega) _).grown hgrow3 (by simp; omega) (fun q hq => (hown.out.lt q hq).1)⟩⟩, by simp [intOf]; omega⟩
      · have hp2 : plainB b = false := by simpa using hp
        clear hp
        have hsb := Aside0.mk (show showB b = [37, digs.getD (b.toNat / 16) 0, digs.getD (b.toNat % 16) 0] by unfold showB; rw [hp2]; rfl)
        have hb256 := b.toNat_lt
        have q1 : IntKind.u8.wrap ((b.toNat : Int) / 16) = ((b.toNat / 16 : Nat) : Int) := by rw [IntWalk.u8_in _ (by omega)]; omega
        have q2 : (b.toNat : Int).tmod 16 = ((b.toNat % 16 : Nat) : Int) := by rw [Int.tmod_eq_emod_of_nonneg (by omega)]; omega
        have q3 : b.toNat / 16 < 16 := by omega
        have q4 : b.toNat % 16 < 16 := by omega
        generalize hx1 : b.toNat / 16 = x1 at hsb q1 q3
        generalize hx2 : b.toNat % 16 = x2 at hsb q2 q4
        have j1 := rdig_at x1 q3
        have j2 := rdig_at x2 q4
        generalize digs.getD x1 0 = y1 at j1 hsb
        generalize digs.getD x2 0 = y2 at j2 hsb
        go_wp2_with (first
          | (go_at_call 71; refine (rplainB_calls _ _).mono ?_; rintro e w' ⟨rfl, rfl⟩))
        refine wp_region_noPanic ?_
        refine wp_region_held (S := fun W => Below w.heap.size w W) (by kernel_rfl) ?_
        have hS : Below w.heap.size w wr.drew := below_drew hbel.out
        have hown2 : wr.drew.ownsRow w.heap.size 5 1 u4 (showL (s.data.toList.take k)).length (bc (showL (s.data.toList.take k))) := hown.out.drew
        change wpAnyH _ _ _ _ _ _ _ _ wr.drew
        clear hown hbel
        generalize wr.drew = W at hS hown2 ⊢
        have hsize2 := hS.size
        refine wpAnyH_take (i := 0) (v := u4) rfl (by kernel_rfl) (by kernel_rfl) (by kernel_rfl) (fun _ _ _ h => h) (.inl ⟨by rfl, fun w' hw' => by go_simp⟩) hS ?_
        refine wpAnyH_take (i := 1) (v := .string dstr) rfl (by kernel_rfl) (by kernel_rfl) (by kernel_rfl) (fun _ _ _ h => h) (.inl ⟨by rfl, fun w' hw' => by go_simp; rfl⟩) hS ?_
        refine wpAnyH_take (i := 2) (v := .string s) rfl (by kernel_rfl) (by kernel_rfl) (by kernel_rfl) (fun _ _ _ h => h) (.inl ⟨by rfl, fun w' hw' => by go_simp⟩) hS ?_
        refine wpAnyH_take (i := 3) (v := .int .i64 k) rfl (by kernel_rfl) (by kernel_rfl) (by kernel_rfl) (fun _ _ _ h => h) (.inl ⟨by rfl, fun w' hw' => by go_simp⟩) hS ?_
        refine wpAnyH_take (i := 4) (v := .int .u8 b.toNat) rfl (by kernel_rfl) (by kernel_rfl) (by kernel_rfl) (fun _ _ _ h => h) (.inl ⟨by rfl, fun w' hw' => by go_simp⟩) hS ?_
        refine wpAnyH_take (i := 5) (v := .int .u8 x1) rfl (by kernel_rfl) (by kernel_rfl) (by kernel_rfl) (fun _ _ _ h => h) (.inl ⟨by rfl, fun w' hw' => by go_simp⟩) hS ?_
        refine wpAnyH_take (i := 6) (v := .int .u8 y1.toNat) rfl (by kernel_rfl) (by kernel_rfl) (by kernel_rfl) (fun _ _ _ h => h) (.inl ⟨by rfl, fun w' hw' => by go_simp⟩) hS ?_
        refine wpAnyH_take (i := 7) (v := .string dstr) rfl (by kernel_rfl) (by kernel_rfl) (by kernel_rfl) (fun _ _ _ h => h) (.inl ⟨by rfl, fun w' hw' => by go_simp; rfl⟩) hS ?_
        refine wpAnyH_take (i := 8) (v := .string s) rfl (by kernel_rfl) (by kernel_rfl) (by kernel_rfl) (fun _ _ _ h => h) (.inl ⟨by rfl, fun w' hw' => by go_simp⟩) hS ?_
        refine wpAnyH_take (i := 9) (v := .int .i64 k) rfl (by kernel_rfl) (by kernel_rfl) (by kernel_rfl) (fun _ _ _ h => h) (.inl ⟨by rfl, fun w' hw' => by go_simp⟩) hS ?_
        refine wpAnyH_take (i := 10) (v := .int .u8 b.toNat) rfl (by kernel_rfl) (by kernel_rfl) (by kernel_rfl) (fun _ _ _ h => h) (.inl ⟨by rfl, fun w' hw' => by go_simp⟩) hS ?_
        refine wpAnyH_take (i := 11) (v := .int .u8 x2) rfl (by kernel_rfl) (by kernel_rfl) (by kernel_rfl) (fun _ _ _ h => h) (.inl ⟨by rfl, fun w' hw' => by go_simp⟩) hS ?_
        refine wpAnyH_take (i := 12) (v := .int .u8 y2.toNat) rfl (by kernel_rfl) (by kernel_rfl) (by kernel_rfl) (fun _ _ _ h => h) (.inl ⟨by rfl, fun w' hw' => by go_simp⟩) hS ?_
        refine wpAnyH_all (rs := [13]) (by kernel_rfl) (by simp) ?_
        intro i hi'
        obtain rfl : i = 13 := by simpa using hi'
        refine wpOp_of rfl (by rfl) ?_
        go_simp
        refine ⟨hS.alloc (by omega) _, ?_⟩
        refine wpAnyH_all (rs := [14]) (by kernel_rfl) (by simp) ?_
        intro i hi'
        obtain rfl : i = 14 := by simpa using hi'
        refine wpOp_of rfl (by rfl) ?_
        refine wp_append_own _ _ _ 57 rfl w.heap.size 5 i0 (.int .u8 0) 1 1 Tryd.underlying57 hi hz0 hz1 hz2 rfl (by decide) _ _ _ rfl (hown2.alloc _) ⟨W.heap.size, 0, none⟩ 3 3 (bc [37, y1, y2]) rfl rfl (cell_new3 _ _ _) one_u8 (by unfold maxLen; omega) (by omega) (by simp; omega) ?_
        intro v' w3 hown' hgrow3 hnil3
        clear hnil3
        have hS3 : Below w.heap.size w w3 := (hS.alloc (by omega) _).grown hgrow3 (by simp; omega) (fun q hq => (hown2.lt q hq).1)
        refine ⟨hS3, ?_⟩
        refine wpAnyH_take (i := 15) (v := v') rfl (by kernel_rfl) (by kernel_rfl) (by kernel_rfl) (fun _ _ _ h => h) (.inl ⟨by rfl, fun w' hw' => by go_simp⟩) hS3 ?_
        refine wpAnyH_done (by kernel_rfl) (NoPanic.normal ?_) _
        have hrow := Aside0.mk (hsn.out ▸ by rw [hsb.out, List.length_append, bc_append]; exact hown' : w3.ownsRow w.heap.size 5 1 v' (showL (s.data.toList.take (k + 1))).length (bc (showL (s.data.toList.take (k + 1)))))
        have hS3' := Aside0.mk hS3
        clear hS3 hown' hgrow3 hS hown2 hsize2
        change Exit.inBlock _ _ _ _ _
        go_wp2
        exact ⟨⟨k + 1, by omega, by first | rfl | simp, hrow, hS3'⟩, by simp [intOf]; omega⟩
    · have hke : k = s.size := by omega
      have hconv2 := Aside0.mk (strOf_bc Tryd.underlying57 Tryd.underlying5 Tryd.underlying9 hown.out)
      rw [hke, List.take_of_length_le (by simp)] at hconv2
      clear hke
      have hcv := hconv2.out
      go_wp2
      go_ret
      exact ⟨rfl, hbel.out⟩
theorem mjolnerref03_Show.calls (a0 : ByteArray) (r : ByteArray) (w : World) (h : mjolnerref03_Show.f a0 = some r) :
    Calls Tryd.prog 40 #[.string a0] w fun e w' => e = .returned (.string r) ∧ Below w.heap.size w w' := by
  unfold mjolnerref03_Show.f text_Show.f at h
  split at h
  · cases h; exact rshow_calls a0 w ‹_›
  · cases h
end Go.Proofs.YtdcemnmbfblmiaaDoor.Given
