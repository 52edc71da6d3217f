/- The contracts of text.Show and of the reference's Show: each returns the shown text and leaves all older memory as it was. -/
import Derived.Test.YtdcemnmbfblmiaaDoorGd
import Derived.Lib.ConvBytes
import Derived.Laws.BytesArg
import Derived.Maps.AppendAt
set_option linter.unusedVariables false
set_option linter.unusedSimpArgs false
namespace Go.Proofs.YtdcemnmbfblmiaaDoor.Given
open Go.RowKit Go.Proofs.YtdcemnmbfblmiaaDoorW.PrintWords Go.Proofs.YtdcemnmbfblmiaaDoorW.PrintLast Go.Proofs.YtdcemnmbfblmiaaDoorW.PrintMore

theorem plain_calls (b : Int) (w : World) : Calls Tryd.prog 67 #[.int .u8 b] w fun e w' => e = .returned (.bool (decide (33 ≤ b) && decide (b ≤ 126) && !decide (b = 37))) ∧ w = w' := by
  go_enter Tryd.func67, Tryd.ntmps67
  go_wp2
  all_goals go_ret
  all_goals exact ⟨by simp [*]; try (first | rfl | omega | (intros; omega)), rfl⟩
theorem plainB_calls (b : UInt8) (w : World) : Calls Tryd.prog 67 #[.int .u8 b.toNat] w fun e w' => e = .returned (.bool (plainB b)) ∧ w = w' := by
  refine (plain_calls b.toNat w).mono ?_
  rintro e w' ⟨rfl, rfl⟩
  refine ⟨?_, rfl⟩
  have e1 : decide ((33 : Int) ≤ (b.toNat : Int)) = decide (33 ≤ b.toNat) := decide_eq_decide.2 (by omega)
  have e2 : decide ((b.toNat : Int) ≤ 126) = decide (b.toNat ≤ 126) := decide_eq_decide.2 (by omega)
  have e3 : (!decide ((b.toNat : Int) = 37)) = decide (b.toNat ≠ 37) := by rw [decide_not]; congr 1; exact decide_eq_decide.2 (by omega)
  unfold plainB
  rw [e1, e2, e3]
theorem info5 : (Tryd.prog.info? 5).map (fun i => (i.zero, i.size, i.bytes)) = some (some (.int .u8 0), 1, 1) := by kernel_rfl
theorem below_bytesWorld (w : World) (s : ByteArray) : Below w.heap.size w (Lib.bytesWorld w 5 s) :=
  ⟨rfl, rfl, rfl, by rw [Lib.bytesWorld_size]; omega, fun j hj => Lib.bytesWorld_at_old w 5 s j hj⟩
theorem showL_snoc (s : List UInt8) (k : Nat) (hk : k < s.length) : showL (s.take (k + 1)) = showL (s.take k) ++ showB (s.getD k 0) := by
  rw [List.take_succ_eq_append_getElem hk]
  unfold showL
  rw [List.flatMap_append]
  simp [List.getD_eq_getElem?_getD, hk]
theorem showL_len (s : List UInt8) : (showL s).length ≤ 3 * s.length := by
  induction s with
  | nil => simp [showL]
  | cons b r ih => simp only [showL, List.flatMap_cons, List.length_append, List.length_cons] at ih ⊢; have : (showB b).length ≤ 3 := by unfold showB; split <;> simp
                   omega
/-- a text's bytes as cells -/
def bc (l : List UInt8) : List Value := l.map fun b => .int .u8 b.toNat
theorem bc_append (l m : List UInt8) : bc (l ++ m) = bc l ++ bc m := by simp [bc]
theorem strOf_bc {P : Program} {w : World} {base : Nat} {src dst e e' : TypeId} {v : Value} {l : List UInt8} (hs : P.underlying src = some (.slice e)) (he : P.underlying e = some (.int .u8)) (hd : P.underlying dst = some .string)
    (h : w.ownsRow base e' 1 v l.length (bc l)) : (convert src dst v).run P w = .ok (.string (ba l)) w := by
  have hx : bc l = nums .u8 (l.map fun b => (b.toNat : Int)) := by simp [bc, nums]
  rw [hx] at h
  rw [own_string hs he hd h]
  congr 3
  simp [strOfNums, ba, List.map_map, Function.comp_def]
theorem one_u8 {l : List UInt8} : ∀ u ∈ bc l, u.oneCell' = true := by
  intro u hu
  simp only [bc, List.mem_map] at hu
  obtain ⟨b, _, rfl⟩ := hu
  rfl
theorem cell_new3 (w : World) (xs : List Value) (t : TypeId) : ∀ j u, xs[j]? = some u → (w.alloc (.cells xs.toArray t)).cell? ((⟨w.heap.size, 0, none⟩ : Addr).add j) = some u := by
  intro j u h
  have hl : j < xs.length := by
    rcases Nat.lt_or_ge j xs.length with h' | h'
    · exact h'
    · simp [List.getElem?_eq_none h'] at h
  have ha : (⟨w.heap.size, 0, none⟩ : Addr).add j = ⟨w.heap.size, j, none⟩ := by unfold Addr.add; split <;> simp_all
  rw [ha]
  simp [World.cell?, World.alloc, -World.alloc_eq, h]
theorem digit_at {w : World} (h : LaidG w) (b : UInt8) :
    w.cell? ⟨0, b.toNat / 16, none⟩ = some (.int .u8 (digs.getD (b.toNat / 16) 0).toNat) ∧ w.cell? ⟨0, b.toNat % 16, none⟩ = some (.int .u8 (digs.getD (b.toNat % 16) 0).toNat) :=
  ⟨h.1 _ (by have := b.toNat_lt; omega), h.1 _ (by omega)⟩
theorem digs_at (x : Nat) (hx : x < 16) (W : World) : (Instr.indexAt 82 (.pointer (some ⟨0, 0, none⟩)) (.int .u8 x)).run Tryd.prog W = .ok (.pointer (some ⟨0, x, none⟩)) W := by
  have h1 : Tryd.prog.arrayLen 82 = 16 := by kernel_rfl
  have h2 : Tryd.prog.elem 82 = 5 := by kernel_rfl
  have hu := Tryd.underlying82
  have ha : (⟨0, 0, none⟩ : Addr).add x = ⟨0, x, none⟩ := by unfold Addr.add; split <;> simp_all
  simp [go_sem, h1, h2, hu, hx, ha]
  intro h; omega
set_option maxRecDepth 100000 in
set_option maxHeartbeats 1000000 in
theorem show_calls (s : ByteArray) (w : World) (hG : LaidG w) (hs : s.size ≤ 1000000000) :
    Calls Tryd.prog 39 #[.string s] w fun e w' => e = .returned (.string (ba (showL s.data.toList))) ∧ Below w.heap.size w w' := by
  obtain ⟨i0, hi, hz0, hz1, hz2⟩ := info_parts info5
  obtain ⟨w1, c1, hconv, hb1, hsz1, hcell1⟩ : ∃ w1 c1, (convert 9 57 (.string s)).run Tryd.prog w = .ok (.slice (some ⟨w.heap.size, 0, none⟩) s.size c1) w1 ∧ Aside0 (Below w.heap.size w w1) ∧ w1.heap.size = w.heap.size + 1 ∧
      Aside0 (∀ j < s.size, w1.cell? ⟨w.heap.size, j, none⟩ = some (.int .u8 (s.data.toList.getD j 0).toNat)) :=
    ⟨_, _, Lib.run_convert_string_bytes w 9 57 5 s Tryd.underlying9 Tryd.underlying57 Tryd.underlying5, ⟨below_bytesWorld w s⟩, Lib.bytesWorld_size w 5 s, ⟨fun j hj => Lib.bytesWorld_cell w 5 s j hj⟩⟩
  have hG1 := Aside0.mk (hG.keep w1 hb1.out)
  clear hG
  go_enter Tryd.func39, Tryd.ntmps39
  go_wp2
  go_loopw [3, 9] (fun v i wr => ∃ k : Nat, k ≤ s.size ∧ i = .int .i64 k ∧ Aside0 (wr.ownsRow (w.heap.size + 1) 5 1 v (showL (s.data.toList.take k)).length (bc (showL (s.data.toList.take k)))) ∧ Aside0 (Below (w.heap.size + 1) w1 wr))
    (fun _ i _ => s.size - (intOf i).toNat)
  case atStart => exact ⟨0, Nat.zero_le _, rfl, ⟨World.ownsRow_nil _ _ _ _⟩, ⟨Below.refl _ _⟩⟩
  case round =>
    obtain ⟨k, hk, rfl, hown, hbel⟩ := hrel
    have hsize := hbel.out.size
    by_cases hlt : k < s.size
    · have hlt2 : k < s.data.toList.length := by simpa using hlt
      have hlen := showL_len (s.data.toList.take k)
      have hlen2 : (s.data.toList.take k).length ≤ 1000000000 := by rw [List.length_take]; omega
      have hc : wr.cell? ⟨w.heap.size, k, none⟩ = some (.int .u8 (s.data.toList.getD k 0).toNat) := (bcell hbel.out (by omega)).trans (hcell1.out k hlt)
      have hsn := Aside0.mk (showL_snoc s.data.toList k hlt2)
      have hGr := Aside0.mk (hG1.out.keep wr (hbel.out.mono (by omega)))
      generalize s.data.toList.getD k 0 = b at hc hsn
      by_cases hp : plainB b = true
      · have hsb := Aside0.mk (show showB b = [b] by unfold showB; rw [hp]; rfl)
        go_wp2_with (first
          | (go_at_call 67; refine (plainB_calls _ _).mono ?_; rintro e w' ⟨rfl, rfl⟩)
          | (at_builtin; refine wpList_append_own _ rfl _ _ 57 rfl (w.heap.size + 1) 5 i0 (.int .u8 0) 1 1 Tryd.underlying57 hi hz0 hz1 hz2 rfl (by decide) _ _ _ rfl (hown.out.alloc _) ⟨wr.heap.size, 0, none⟩ 1 1 (bc [b]) rfl rfl (cell_one_new _ _ _) one_u8 (by unfold maxLen; omega) (by omega) (by simp; omega) ?_; intro v' w3 hown' hgrow3 hnil3))
        clear hnil3
        have hrow := (hsn.out ▸ by rw [hsb.out, List.length_append, bc_append]; exact hown' : w3.ownsRow (w.heap.size + 1) 5 1 v' (showL (s.data.toList.take (k + 1))).length (bc (showL (s.data.toList.take (k + 1)))))
        exact ⟨⟨k + 1, by omega, by first | rfl | simp, ⟨hrow⟩, ⟨(hbel.out.alloc (by omega) _).grown hgrow3 (by simp; omega) (fun q hq => (hown.out.lt q hq).1)⟩⟩, by simp [intOf]; omega⟩
      · have hp2 : plainB b = false := by simpa using hp
        clear hp
        have hsb := Aside0.mk (show showB b = [37, digs.getD (b.toNat / 16) 0, digs.getD (b.toNat % 16) 0] by unfold showB; rw [hp2]; rfl)
        obtain ⟨hd1, hd2⟩ := digit_at hG1.out b
        have hb256 := b.toNat_lt
        have q1 : IntKind.u8.wrap ((b.toNat : Int) / 16) = ((b.toNat / 16 : Nat) : Int) := by rw [IntWalk.u8_in _ (by omega)]; omega
        have q2 : (b.toNat : Int).tmod 16 = ((b.toNat % 16 : Nat) : Int) := by rw [Int.tmod_eq_emod_of_nonneg (by omega)]; omega
        have q3 : b.toNat / 16 < 16 := by omega
        have q4 : b.toNat % 16 < 16 := by omega
        generalize hx1 : b.toNat / 16 = x1 at hd1 hsb q1 q3
        generalize hx2 : b.toNat % 16 = x2 at hd2 hsb q2 q4
        have j1 := digs_at x1 q3
        have j2 := digs_at x2 q4
        generalize digs.getD x1 0 = y1 at hd1 hsb
        generalize digs.getD x2 0 = y2 at hd2 hsb
        go_wp2_with (first
          | (go_at_call 67; refine (plainB_calls _ _).mono ?_; rintro e w' ⟨rfl, rfl⟩))
        refine wp_region_noPanic ?_
        refine wp_region_held (S := fun W => Below (w.heap.size + 1) w1 W) (by kernel_rfl) ?_
        have hS : Below (w.heap.size + 1) w1 wr.drew := below_drew hbel.out
        have hown2 : wr.drew.ownsRow (w.heap.size + 1) 5 1 u3 (showL (s.data.toList.take k)).length (bc (showL (s.data.toList.take k))) := hown.out.drew
        change wpAnyH _ _ _ _ _ _ _ _ wr.drew
        clear hown hbel hc
        generalize wr.drew = W at hS hown2 ⊢
        have hsize2 := hS.size
        have e1 : ∀ W', Below (w.heap.size + 1) w1 W' → W'.cell? ⟨0, x1, none⟩ = some (.int .u8 y1.toNat) := fun W' hW => (bcell hW (by omega)).trans hd1
        have e2 : ∀ W', Below (w.heap.size + 1) w1 W' → W'.cell? ⟨0, x2, none⟩ = some (.int .u8 y2.toNat) := fun W' hW => (bcell hW (by omega)).trans hd2
        refine wpAnyH_take (i := 0) (v := u3) rfl (by kernel_rfl) (by kernel_rfl) (by kernel_rfl) (fun _ _ _ h => h) (.inl ⟨by rfl, fun w' hw' => by go_simp⟩) hS ?_
        refine wpAnyH_take (i := 1) (v := .int .u8 b.toNat) rfl (by kernel_rfl) (by kernel_rfl) (by kernel_rfl) (fun _ _ _ h => h) (.inl ⟨by rfl, fun w' hw' => by go_simp⟩) hS ?_
        refine wpAnyH_take (i := 2) (v := .int .u8 x1) rfl (by kernel_rfl) (by kernel_rfl) (by kernel_rfl) (fun _ _ _ h => h) (.inl ⟨by rfl, fun w' hw' => by go_simp⟩) hS ?_
        refine wpAnyH_take (i := 3) (v := .pointer (some ⟨0, x1, none⟩)) rfl (by kernel_rfl) (by kernel_rfl) (by kernel_rfl) (fun _ _ _ h => h) (.inl ⟨by rfl, fun w' hw' => by go_simp⟩) hS ?_
        refine wpAnyH_take (i := 4) (v := .int .u8 y1.toNat) rfl (by kernel_rfl) (by kernel_rfl) (by kernel_rfl) (fun _ _ _ h => h) (.inl ⟨by rfl, fun w' hw' => by have := e1 w' hw'; go_simp⟩) hS ?_
        refine wpAnyH_take (i := 5) (v := .int .u8 b.toNat) rfl (by kernel_rfl) (by kernel_rfl) (by kernel_rfl) (fun _ _ _ h => h) (.inl ⟨by rfl, fun w' hw' => by go_simp⟩) hS ?_
        refine wpAnyH_take (i := 6) (v := .int .u8 x2) rfl (by kernel_rfl) (by kernel_rfl) (by kernel_rfl) (fun _ _ _ h => h) (.inl ⟨by rfl, fun w' hw' => by go_simp⟩) hS ?_
        refine wpAnyH_take (i := 7) (v := .pointer (some ⟨0, x2, none⟩)) rfl (by kernel_rfl) (by kernel_rfl) (by kernel_rfl) (fun _ _ _ h => h) (.inl ⟨by rfl, fun w' hw' => by go_simp⟩) hS ?_
        refine wpAnyH_take (i := 8) (v := .int .u8 y2.toNat) rfl (by kernel_rfl) (by kernel_rfl) (by kernel_rfl) (fun _ _ _ h => h) (.inl ⟨by rfl, fun w' hw' => by have := e2 w' hw'; go_simp⟩) hS ?_
        clear e1 e2
        refine wpAnyH_all (rs := [9]) (by kernel_rfl) (by simp) ?_
        intro i hi'
        obtain rfl : i = 9 := by simpa using hi'
        refine wpOp_of rfl (by rfl) ?_
        go_simp
        refine ⟨hS.alloc (by omega) _, ?_⟩
        refine wpAnyH_all (rs := [10]) (by kernel_rfl) (by simp) ?_
        intro i hi'
        obtain rfl : i = 10 := by simpa using hi'
        refine wpOp_of rfl (by rfl) ?_
        refine wp_append_own _ _ _ 57 rfl (w.heap.size + 1) 5 i0 (.int .u8 0) 1 1 Tryd.underlying57 hi hz0 hz1 hz2 rfl (by decide) _ _ _ rfl (hown2.alloc _) ⟨W.heap.size, 0, none⟩ 3 3 (bc [37, y1, y2]) rfl rfl (cell_new3 _ _ _) one_u8 (by unfold maxLen; omega) (by omega) (by simp; omega) ?_
        intro v' w3 hown' hgrow3 hnil3
        clear hnil3
        have hS3 : Below (w.heap.size + 1) w1 w3 := (hS.alloc (by omega) _).grown hgrow3 (by simp; omega) (fun q hq => (hown2.lt q hq).1)
        refine ⟨hS3, ?_⟩
        refine wpAnyH_take (i := 11) (v := v') rfl (by kernel_rfl) (by kernel_rfl) (by kernel_rfl) (fun _ _ _ h => h) (.inl ⟨by rfl, fun w' hw' => by go_simp⟩) hS3 ?_
        refine wpAnyH_done (by kernel_rfl) (NoPanic.normal ?_) _
        have hrow := Aside0.mk (hsn.out ▸ by rw [hsb.out, List.length_append, bc_append]; exact hown' : w3.ownsRow (w.heap.size + 1) 5 1 v' (showL (s.data.toList.take (k + 1))).length (bc (showL (s.data.toList.take (k + 1)))))
        have hS3' := Aside0.mk hS3
        clear hS3 hown' hgrow3 hS hown2 hsize2
        change Exit.inBlock _ _ _ _ _
        go_wp2
        exact ⟨⟨k + 1, by omega, by first | rfl | simp, hrow, hS3'⟩, by simp [intOf]; omega⟩
    · have hke : k = s.size := by omega
      have hconv2 := Aside0.mk (strOf_bc Tryd.underlying57 Tryd.underlying5 Tryd.underlying9 hown.out)
      rw [hke, List.take_of_length_le (by simp)] at hconv2
      clear hke
      have hcv := hconv2.out
      go_wp2
      go_ret
      exact ⟨rfl, hb1.out.trans (hbel.out.mono (by omega))⟩
theorem text_Show.calls (a0 : ByteArray) (r : ByteArray) (w : World) (hG : LaidG w) (h : text_Show.f a0 = some r) :
    Calls Tryd.prog 39 #[.string a0] w fun e w' => e = .returned (.string r) ∧ Below w.heap.size w w' := by
  unfold text_Show.f at h
  split at h
  · cases h; exact show_calls a0 w hG ‹_›
  · cases h
end Go.Proofs.YtdcemnmbfblmiaaDoor.Given
