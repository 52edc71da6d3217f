/- The contract of text.Read: the text read, failures caught; all older memory is left as it was. -/
import Derived.Test.YtdcemnmbfblmiaaDoorGh
set_option linter.unusedVariables false
set_option linter.unusedSimpArgs false
namespace Go.Proofs.YtdcemnmbfblmiaaDoor.Given
open Go.RowKit Go.Proofs.YtdcemnmbfblmiaaDoorW.PrintWords Go.Proofs.YtdcemnmbfblmiaaDoorW.PrintLast Go.Proofs.YtdcemnmbfblmiaaDoorW.PrintMore

theorem results37 (t : Array Value) (W : World) (g : Nat) (x u : Value) (h2 : t.getD 2 undef = .pointer (some ⟨g, 0, none⟩)) (h3 : t.getD 3 undef = .pointer (some ⟨g + 1, 0, none⟩))
    (c0 : W.cell? ⟨g, 0, none⟩ = some x) (c1 : W.cell? ⟨g + 1, 0, none⟩ = some u) : (results Tryd.f37 t).run Tryd.prog W = .ok (.tuple #[x, u]) W := by
  have hu9 := Tryd.underlying9
  have hu22 := Tryd.underlying22
  have e2 : t[2]?.getD undef = .pointer (some ⟨g, 0, none⟩) := by simpa [Array.getD_eq_getD_getElem?] using h2
  have e3 : t[3]?.getD undef = .pointer (some ⟨g + 1, 0, none⟩) := by simpa [Array.getD_eq_getD_getElem?] using h3
  simp [results, Tryd.results37, go_sem, e2, e3, c0, c1]
/-- what holds of the memory while Read runs: the two results' cells are as they were laid -/
def Rd (g : Nat) (w W : World) : Prop := Below g w W ∧ W.cell? ⟨g, 0, none⟩ = some (.string ⟨#[]⟩) ∧ W.cell? ⟨g + 1, 0, none⟩ = some (.int .i64 0) ∧ W.frozen? ⟨g, 0, none⟩ = false ∧ W.frozen? ⟨g + 1, 0, none⟩ = false
def defs37 (g : Nat) : List Deferred := [{ target := .fn (.func 66) #[], args := #[.pointer (some ⟨g, 0, none⟩), .pointer (some ⟨g + 1, 0, none⟩)] }]
/-- a panic's post, out of Read's frame -/
def QR (g : Nat) (w : World) : Exit → Act → World → Prop
  | .panic c, a, w1 => (c = [{ v := failV 7, recovered := false }] ∧ Rd g w w1) ∧ a.defers = defs37 g ∧ a.tmps.getD 2 undef = .pointer (some ⟨g, 0, none⟩) ∧ a.tmps.getD 3 undef = .pointer (some ⟨g + 1, 0, none⟩)
  | _, _, _ => False
theorem QR_put {g : Nat} {w : World} {d : Nat} {v : Value} (h4 : d ≠ 2) (h5 : d ≠ 3) : ∀ c a w1, QR g w (.panic c) (a.put (some d) v) w1 → QR g w (.panic c) a w1 := by
  intro c a w1 ⟨h, hd, e4, e5⟩
  refine ⟨h, hd, ?_, ?_⟩
  · simpa [Act.put, Array.getD_eq_getD_getElem?, Array.getElem?_setIfInBounds, h4] using e4
  · simpa [Act.put, Array.getD_eq_getD_getElem?, Array.getElem?_setIfInBounds, h5] using e5
set_option linter.unusedSimpArgs false
set_option maxRecDepth 100000 in
set_option maxHeartbeats 1000000 in
theorem read_door {R : Ending → World → Prop} {c : List PanicEntry} {g : Nat} {w w1 : World} {a : Act} (hg : g = w.heap.size) (hR : ∀ w', Below g w w' → R (.returned (.tuple #[.string ⟨#[]⟩, .int .i64 7])) w')
    (h : QR g w (.panic c) a w1) : bodyPostD Tryd.prog Tryd.f37 R (.panic c) a w1 := by
  obtain ⟨⟨rfl, hB, c0, c1, f0, f1⟩, hd, h2, h3⟩ := h
  show Leaves _ _ _ _ _ _ _
  rw [hd]
  have lt1 := World.block_lt_of_cell? w1 _ c0
  have lt2 := World.block_lt_of_cell? w1 _ c1
  simp only [] at lt1 lt2
  refine leaves_cons (f := 66) (args := #[.pointer (some ⟨g, 0, none⟩), .pointer (some ⟨g + 1, 0, none⟩)]) (by simp) (by simp [go_sem]) ?_
  refine (caught_fails g (g + 1) 7 _ _ w1 c0 c1 f0 f1 (by omega)).mono ?_
  rintro e u' w'' ⟨rfl, rfl, rfl⟩
  have hBf := below_drew (((hB.setCell (p := ⟨g, 0, none⟩) (Nat.le_refl _) (.string ⟨#[]⟩)).setCell (p := ⟨g + 1, 0, none⟩) (by simp) (.int .i64 7)).alloc (by simp; omega) (.cells #[.int .i64 7] 95))
  have n0 : ¬ g = w1.heap.size := by omega
  have n2 : ¬ g + 1 = w1.heap.size := by omega
  have n3 : ¬ w1.heap.size = g := by omega
  have n4 : ¬ w1.heap.size = g + 1 := by omega
  show Leaves _ _ _ _ [] .returning _
  refine ⟨_, results37 _ _ g _ _ h2 h3 ?_ ?_, hR _ hBf⟩
  all_goals simp [go_sem, c0, c1, lt1, lt2, n0, n2, n3, n4]
/-- the world behind the two blocks that Read lays -/
def wR (w : World) : World := (w.alloc (.cells #[.string ⟨#[]⟩] 9)).alloc (.cells #[.int .i64 0] 22)
theorem wR_size (w : World) : (wR w).heap.size = w.heap.size + 2 := by simp [wR]
theorem wR_below (w : World) : Below w.heap.size w (wR w) := ((Below.refl _ _).alloc (Nat.le_refl _) _).alloc (by simp) _
theorem Rd_of {w W : World} (h : Below (w.heap.size + 2) (wR w) W) : Rd w.heap.size w W := by
  refine ⟨(wR_below w).trans (h.mono (by omega)), (bcell h (by omega)).trans ?_, (bcell h (by omega)).trans ?_, (bfrozen h (by omega)).trans ?_, (bfrozen h (by omega)).trans ?_⟩
  all_goals simp [wR, go_sem]
def ReadPost (w : World) : Option (List UInt8) → Ending → World → Prop
  | some x, e, w' => e = .returned (.tuple #[.string (ba x), .int .i64 0]) ∧ Below w.heap.size w w'
  | none, e, w' => e = .returned (.tuple #[.string ⟨#[]⟩, .int .i64 7]) ∧ Below w.heap.size w w'
theorem readL_at {l : List UInt8} {k : Nat} (hk : k < l.length) : l.drop k = l.getD k 0 :: l.drop (k + 1) := by
  rw [List.drop_eq_getElem_cons hk]
  simp [List.getD_eq_getElem?_getD, hk]
theorem readL_cons (b : UInt8) (r : List UInt8) : readL (b :: r) =
    (if plainB b then (readL r).map (b :: ·)
    else if b = 37 then
      match r with
      | c :: d :: r' => if digB c < 16 ∧ digB d < 16 ∧ plainB (UInt8.ofNat (16 * digB c + digB d)) = false then (readL r').map (UInt8.ofNat (16 * digB c + digB d) :: ·) else none
      | _ => none
    else none) := by
  conv => lhs; unfold readL
  rfl
theorem readL_plain {l : List UInt8} {k : Nat} (hk : k < l.length) (h : plainB (l.getD k 0) = true) : readL (l.drop k) = (readL (l.drop (k + 1))).map (l.getD k 0 :: ·) := by
  rw [readL_at hk, readL_cons, if_pos h]
theorem readL_bad {l : List UInt8} {k : Nat} (hk : k < l.length) (h : plainB (l.getD k 0) = false) (h2 : l.getD k 0 ≠ 37) : readL (l.drop k) = none := by
  rw [readL_at hk, readL_cons, if_neg (by rw [h]; decide), if_neg h2]
theorem readL_short {l : List UInt8} {k : Nat} (hk : k < l.length) (h : plainB (l.getD k 0) = false) (h2 : ¬ k + 2 < l.length) : readL (l.drop k) = none := by
  rw [readL_at hk, readL_cons, if_neg (by rw [h]; decide)]
  split
  · split
    · rename_i hh
      have := congrArg List.length hh
      simp at this
      omega
    · rfl
  · rfl
theorem readL_esc {l : List UInt8} {k : Nat} (hk : k < l.length) (h : l.getD k 0 = 37) (h2 : k + 2 < l.length) :
    readL (l.drop k) = if digB (l.getD (k + 1) 0) < 16 ∧ digB (l.getD (k + 2) 0) < 16 ∧ plainB (UInt8.ofNat (16 * digB (l.getD (k + 1) 0) + digB (l.getD (k + 2) 0))) = false then
      (readL (l.drop (k + 3))).map (UInt8.ofNat (16 * digB (l.getD (k + 1) 0) + digB (l.getD (k + 2) 0)) :: ·) else none := by
  rw [readL_at hk, h, readL_at (show k + 1 < l.length by omega), readL_at h2]
  rw [readL_cons, if_neg (by decide), if_pos rfl]
theorem ne37 {b : UInt8} (h : b ≠ 37) : ¬ (b.toNat : Int) = 37 := by
  intro e
  exact h (UInt8.toNat_inj.1 (show b.toNat = 37 by omega))
theorem map_none {l out : List UInt8} {o : Option (List UInt8)} (h : readL l = o.map (out ++ ·)) (h2 : o = none) : readL l = none := by rw [h, h2]; rfl
theorem map_step {l out x : List UInt8} {o o' : Option (List UInt8)} (h : readL l = o.map (out ++ ·)) (h2 : o = o'.map (x ++ ·)) : readL l = o'.map ((out ++ x) ++ ·) := by rw [h, h2]; cases o' <;> simp
set_option maxRecDepth 100000 in
set_option maxHeartbeats 2000000 in
theorem read_calls (s : ByteArray) (w : World) (hG : LaidG w) (hs : s.size ≤ 1000000000) :
    Calls Tryd.prog 37 #[.string s] w (ReadPost w (readL s.data.toList)) := by
  obtain ⟨i0, hi, hz0, hz1, hz2⟩ := info_parts info5
  have hu9 := Tryd.underlying9
  have hu22 := Tryd.underlying22
  have HG := Aside0.mk hG
  clear hG
  generalize hX : readL s.data.toList = X
  have HX := Aside0.mk hX
  clear hX
  go_enter_defers Tryd.func37, Tryd.ntmps37
  go_wp2
  go_loopw [4, 5] (fun v i wr => ∃ (k : Nat) (out : List UInt8), k ≤ s.size ∧ i = .int .i64 k ∧ out.length ≤ k ∧ Aside0 (wr.ownsRow (w.heap.size + 2) 5 1 v out.length (bc out)) ∧ Aside0 (Below (w.heap.size + 2) (wR w) wr) ∧ Aside0 (X = (readL (s.data.toList.drop k)).map (out ++ ·)))
    (fun _ i _ => s.size - (intOf i).toNat)
  case atStart => exact ⟨0, [], Nat.zero_le _, rfl, Nat.zero_le _, ⟨World.ownsRow_nil _ _ _ _⟩, ⟨Below.refl _ _⟩, ⟨by rw [← HX.out]; cases h : readL s.data.toList <;> simp [h]⟩⟩
  case round =>
    obtain ⟨k, out, hk, rfl, hol, hown, hbel, hrd⟩ := hrel
    have hsize := hbel.out.size
    rw [wR_size] at hsize
    by_cases hlt : k < s.size
    · have hlt2 : k < s.data.toList.length := by simpa using hlt
      have hix := rbyte_at s k hlt
      by_cases hp : plainB (s.data.toList.getD k 0) = true
      · have hst := Aside0.mk (map_step (l := s.data.toList) (by rw [HX.out]; exact hrd.out) (show _ = Option.map ([s.data.toList.getD k 0] ++ ·) _ from readL_plain hlt2 hp))
        rw [HX.out] at hst
        generalize s.data.toList.getD k 0 = b at hix hst hp
        go_wp2_with (first
          | (go_at_call 67; (with_reducible refine (plainB_calls _ _).mono ?_); rintro e w' ⟨rfl, rfl⟩; rw [hp])
          | (at_builtin; refine wpList_append_own _ rfl _ _ 57 rfl (w.heap.size + 2) 5 i0 (.int .u8 0) 1 1 Tryd.underlying57 hi hz0 hz1 hz2 rfl (by decide) _ _ _ rfl (hown.out.alloc _) ⟨wr.heap.size, 0, none⟩ 1 1 (bc [b]) rfl rfl (cell_one_new _ _ _) one_u8 (by unfold maxLen; omega) (by omega) (by simp; omega) ?_; intro v' w3 hown' hgrow3 hnil3))
        clear hnil3
        have hrow : w3.ownsRow (w.heap.size + 2) 5 1 v' (out ++ [b]).length (bc (out ++ [b])) := by rw [List.length_append, bc_append]; exact hown'
        exact ⟨⟨k + 1, out ++ [b], by omega, by first | rfl | simp, by simp; omega, ⟨hrow⟩, ⟨(hbel.out.alloc (by omega) _).grown hgrow3 (by simp; omega) (fun q hq => (hown.out.lt q hq).1)⟩, hst⟩, by simp [intOf]; omega⟩
      · have hp2 : plainB (s.data.toList.getD k 0) = false := by simpa using hp
        clear hp
        by_cases h37 : s.data.toList.getD k 0 = 37
        · by_cases hk2 : k + 2 < s.size
          · have hk22 : k + 2 < s.data.toList.length := by simpa using hk2
            have hix1 : ∀ W, (Instr.index 9 (.string s) (.int .i64 ((k : Int) + 1))).run Tryd.prog W = .ok (.int .u8 (s.data.toList.getD (k + 1) 0).toNat) W := rbyte_at s (k + 1) (by omega)
            have hix2 : ∀ W, (Instr.index 9 (.string s) (.int .i64 ((k : Int) + 2))).run Tryd.prog W = .ok (.int .u8 (s.data.toList.getD (k + 2) 0).toNat) W := rbyte_at s (k + 2) hk2
            have hesc := Aside0.mk (readL_esc hlt2 h37 hk22)
            have hb37 : (((s.data.toList.getD k 0).toNat : Int) == 37) = true := by rw [h37]; rfl
            generalize s.data.toList.getD k 0 = b at hix hp2 hb37
            generalize s.data.toList.getD (k + 1) 0 = c at hix1 hesc
            generalize s.data.toList.getD (k + 2) 0 = d at hix2 hesc
            have hd2 : decide ((k : Int) + 2 < (s.size : Int)) = true := decide_eq_true (by omega)
            clear h37
            by_cases hcd : digB c < 16 ∧ digB d < 16
            · obtain ⟨hc16, hd16⟩ := hcd
              have hadd : IntKind.u8.wrap (16 * (digB c : Int) + (digB d : Int)) = ((UInt8.ofNat (16 * digB c + digB d)).toNat : Int) := by
                rw [IntWalk.u8_in _ (by omega)]
                simp [UInt8.toNat_ofNat']
                omega
              generalize UInt8.ofNat (16 * digB c + digB d) = x at hesc hadd
              have hmul : IntKind.u8.wrap (16 * (digB c : Int)) = 16 * (digB c : Int) := IntWalk.u8_in _ (by omega)
              go_wp2_with (first
                | (go_at_call 67; (with_reducible refine (plainB_calls _ _).mono ?_); rintro e w' ⟨rfl, rfl⟩; rw [hp2])
                | (go_at_call 68; (with_reducible refine (need_true _ _).mono ?_); rintro e w' ⟨rfl, rfl⟩) | (go_at_call 68; (with_reducible refine (need_false _ _).mono ?_); rintro e w' ⟨rfl, rfl⟩))
              refine wp_region_noPanic ?_
              refine wp_region_held (S := fun W => Below (w.heap.size + 2) (wR w) W ∧ LaidG W) (by kernel_rfl) ?_
              have hS : (fun W => Below (w.heap.size + 2) (wR w) W ∧ LaidG W) wr.drew := ⟨below_drew hbel.out, HG.out.keep _ ((wR_below w).trans ((below_drew hbel.out).mono (by omega)))⟩
              have hown2 : wr.drew.ownsRow (w.heap.size + 2) 5 1 u4 out.length (bc out) := hown.out.drew
              change wpAnyH _ _ _ _ _ _ _ _ wr.drew
              have hw1 : IntKind.i64.wrap ((k : Int) + 1) = (k : Int) + 1 := IntWalk.i64_in _ (by omega)
              have hw2 : IntKind.i64.wrap ((k : Int) + 2) = (k : Int) + 2 := IntWalk.i64_in _ (by omega)
              clear hown hbel
              generalize wr.drew = W at hS hown2 ⊢
              refine wpAnyH_take (i := 0) (v := .string s) rfl (by kernel_rfl) (by kernel_rfl) (by kernel_rfl) (fun _ _ _ h => h) (.inl ⟨by rfl, fun w' hw' => by go_simp⟩) hS ?_
              refine wpAnyH_take (i := 1) (v := .int .i64 k) rfl (by kernel_rfl) (by kernel_rfl) (by kernel_rfl) (fun _ _ _ h => h) (.inl ⟨by rfl, fun w' hw' => by go_simp⟩) hS ?_
              refine wpAnyH_take (i := 2) (v := .int .i64 ((k : Int) + 1)) rfl (by kernel_rfl) (by kernel_rfl) (by kernel_rfl) (fun _ _ _ h => h) (.inl ⟨by rfl, fun w' hw' => by go_simp⟩) hS ?_
              refine wpAnyH_take (i := 3) (v := .int .u8 c.toNat) rfl (by kernel_rfl) (by kernel_rfl) (by kernel_rfl) (fun _ _ _ h => h) (.inl ⟨by rfl, fun w' hw' => by go_simp⟩) hS ?_
              refine wpAnyH_take (i := 6) (v := .string s) rfl (by kernel_rfl) (by kernel_rfl) (by kernel_rfl) (fun _ _ _ h => h) (.inl ⟨by rfl, fun w' hw' => by go_simp⟩) hS ?_
              refine wpAnyH_take (i := 7) (v := .int .i64 k) rfl (by kernel_rfl) (by kernel_rfl) (by kernel_rfl) (fun _ _ _ h => h) (.inl ⟨by rfl, fun w' hw' => by go_simp⟩) hS ?_
              refine wpAnyH_take (i := 8) (v := .int .i64 ((k : Int) + 2)) rfl (by kernel_rfl) (by kernel_rfl) (by kernel_rfl) (fun _ _ _ h => h) (.inl ⟨by rfl, fun w' hw' => by go_simp⟩) hS ?_
              refine wpAnyH_take (i := 9) (v := .int .u8 d.toNat) rfl (by kernel_rfl) (by kernel_rfl) (by kernel_rfl) (fun _ _ _ h => h) (.inl ⟨by rfl, fun w' hw' => by go_simp⟩) hS ?_
              refine wpAnyH_all (rs := [4]) (by kernel_rfl) (by simp) ?_
              intro i hi'
              obtain rfl : i = 4 := by simpa using hi'
              refine wpOp_of rfl (by rfl) ?_
              go_simp
              refine (digit_ok c _ hS.2 hc16).mono ?_
              rintro e w' ⟨rfl, rfl⟩
              refine ⟨hS, ?_⟩
              refine wpAnyH_take (i := 5) (v := .int .u8 (16 * (digB c : Int))) rfl (by kernel_rfl) (by kernel_rfl) (by kernel_rfl) (fun _ _ _ h => h) (.inl ⟨by rfl, fun w' hw' => by go_simp⟩) hS ?_
              refine wpAnyH_all (rs := [10]) (by kernel_rfl) (by simp) ?_
              intro i hi'
              obtain rfl : i = 10 := by simpa using hi'
              refine wpOp_of rfl (by rfl) ?_
              go_simp
              refine (digit_ok d _ hS.2 hd16).mono ?_
              rintro e w' ⟨rfl, rfl⟩
              refine ⟨hS, ?_⟩
              refine wpAnyH_take (i := 11) (v := .int .u8 x.toNat) rfl (by kernel_rfl) (by kernel_rfl) (by kernel_rfl) (fun _ _ _ h => h) (.inl ⟨by rfl, fun w' hw' => by go_simp⟩) hS ?_
              refine wpAnyH_take (i := 12) (v := .int .u8 x.toNat) rfl (by kernel_rfl) (by kernel_rfl) (by kernel_rfl) (fun _ _ _ h => h) (.inl ⟨by rfl, fun w' hw' => by go_simp⟩) hS ?_
              refine wpAnyH_done (by kernel_rfl) (NoPanic.normal ?_) _
              have hbel := Aside0.mk hS.1
              have hown := Aside0.mk hown2
              have hsize2 := hS.1.size
              rw [wR_size] at hsize2
              clear hS hown2 hmul hadd hw1 hw2 hix hix1 hix2 hb37
              by_cases hp3 : plainB x = true
              · have HXn := Aside0.mk (show X = none by rw [hrd.out, hesc.out, if_neg (fun h => by rw [hp3] at h; exact absurd h.2.2 (by decide))]; rfl)
                clear hesc
                change Exit.then _ _ _ _ _
                go_wp2_with (first
                | (go_at_call 67; (with_reducible refine (plainB_calls _ _).mono ?_); rintro e w' ⟨rfl, rfl⟩; rw [hp3])
                | (go_at_call 68; (with_reducible refine (need_true _ _).mono ?_); rintro e w' ⟨rfl, rfl⟩) | (go_at_call 68; (with_reducible refine (need_false _ _).mono ?_); rintro e w' ⟨rfl, rfl⟩))
                exact read_door rfl (fun w' hb => by rw [HXn.out]; exact ⟨rfl, hb⟩) ⟨⟨rfl, Rd_of hbel.out⟩, rfl, rfl, rfl⟩
              · have hp4 : plainB x = false := by simpa using hp3
                clear hp3
                have hst := Aside0.mk (map_step (l := s.data.toList) (by rw [HX.out]; exact hrd.out) (show _ = Option.map ([x] ++ ·) (readL (s.data.toList.drop (k + 3))) from by rw [hesc.out, if_pos ⟨hc16, hd16, hp4⟩]; rfl))
                rw [HX.out] at hst
                clear hesc
                change Exit.then _ _ _ _ _
                go_wp2_with (first
                | (go_at_call 67; (with_reducible refine (plainB_calls _ _).mono ?_); rintro e w' ⟨rfl, rfl⟩; rw [hp4])
                | (go_at_call 68; (with_reducible refine (need_true _ _).mono ?_); rintro e w' ⟨rfl, rfl⟩) | (go_at_call 68; (with_reducible refine (need_false _ _).mono ?_); rintro e w' ⟨rfl, rfl⟩)
                  | (at_builtin; refine wpList_append_own _ rfl _ _ 57 rfl (w.heap.size + 2) 5 i0 (.int .u8 0) 1 1 Tryd.underlying57 hi hz0 hz1 hz2 rfl (by decide) _ _ _ rfl (hown.out.alloc _) ⟨W.heap.size, 0, none⟩ 1 1 (bc [x]) rfl rfl (cell_one_new _ _ _) one_u8 (by unfold maxLen; omega) (by omega) (by simp; omega) ?_; intro v' w3 hown' hgrow3 hnil3))
                clear hnil3
                have hrow : w3.ownsRow (w.heap.size + 2) 5 1 v' (out ++ [x]).length (bc (out ++ [x])) := by rw [List.length_append, bc_append]; exact hown'
                exact ⟨⟨k + 3, out ++ [x], by omega, by first | rfl | (simp; omega), by simp; omega, ⟨hrow⟩, ⟨(hbel.out.alloc (by omega) _).grown hgrow3 (by simp; omega) (fun q hq => (hown.out.lt q hq).1)⟩, hst⟩, by simp [intOf]; omega⟩
            · have HXn := Aside0.mk (show X = none by rw [hrd.out, hesc.out, if_neg (fun h => hcd ⟨h.1, h.2.1⟩)]; rfl)
              clear hesc
              go_wp2_with (first
              | (go_at_call 67; (with_reducible refine (plainB_calls _ _).mono ?_); rintro e w' ⟨rfl, rfl⟩; rw [hp2])
              | (go_at_call 68; (with_reducible refine (need_true _ _).mono ?_); rintro e w' ⟨rfl, rfl⟩) | (go_at_call 68; (with_reducible refine (need_false _ _).mono ?_); rintro e w' ⟨rfl, rfl⟩))
              refine wp_mono (Q := QR w.heap.size w) ?_ ?_
              · refine wp_region_held (S := fun W => Below (w.heap.size + 2) (wR w) W ∧ LaidG W) (by kernel_rfl) ?_
                have hS : (fun W => Below (w.heap.size + 2) (wR w) W ∧ LaidG W) wr.drew := ⟨below_drew hbel.out, HG.out.keep _ ((wR_below w).trans ((below_drew hbel.out).mono (by omega)))⟩
                change wpAnyH _ _ _ _ _ _ _ _ wr.drew
                have hw1 : IntKind.i64.wrap ((k : Int) + 1) = (k : Int) + 1 := IntWalk.i64_in _ (by omega)
                have hw2 : IntKind.i64.wrap ((k : Int) + 2) = (k : Int) + 2 := IntWalk.i64_in _ (by omega)
                generalize wr.drew = W at hS ⊢
                refine wpAnyH_take (i := 0) (v := .string s) rfl (by kernel_rfl) (by kernel_rfl) (by kernel_rfl) (QR_put (by decide) (by decide)) (.inl ⟨by rfl, fun w' hw' => by go_simp⟩) hS ?_
                refine wpAnyH_take (i := 1) (v := .int .i64 k) rfl (by kernel_rfl) (by kernel_rfl) (by kernel_rfl) (QR_put (by decide) (by decide)) (.inl ⟨by rfl, fun w' hw' => by go_simp⟩) hS ?_
                refine wpAnyH_take (i := 2) (v := .int .i64 ((k : Int) + 1)) rfl (by kernel_rfl) (by kernel_rfl) (by kernel_rfl) (QR_put (by decide) (by decide)) (.inl ⟨by rfl, fun w' hw' => by go_simp⟩) hS ?_
                refine wpAnyH_take (i := 3) (v := .int .u8 c.toNat) rfl (by kernel_rfl) (by kernel_rfl) (by kernel_rfl) (QR_put (by decide) (by decide)) (.inl ⟨by rfl, fun w' hw' => by go_simp⟩) hS ?_
                refine wpAnyH_take (i := 6) (v := .string s) rfl (by kernel_rfl) (by kernel_rfl) (by kernel_rfl) (QR_put (by decide) (by decide)) (.inl ⟨by rfl, fun w' hw' => by go_simp⟩) hS ?_
                refine wpAnyH_take (i := 7) (v := .int .i64 k) rfl (by kernel_rfl) (by kernel_rfl) (by kernel_rfl) (QR_put (by decide) (by decide)) (.inl ⟨by rfl, fun w' hw' => by go_simp⟩) hS ?_
                refine wpAnyH_take (i := 8) (v := .int .i64 ((k : Int) + 2)) rfl (by kernel_rfl) (by kernel_rfl) (by kernel_rfl) (QR_put (by decide) (by decide)) (.inl ⟨by rfl, fun w' hw' => by go_simp⟩) hS ?_
                refine wpAnyH_take (i := 9) (v := .int .u8 d.toNat) rfl (by kernel_rfl) (by kernel_rfl) (by kernel_rfl) (QR_put (by decide) (by decide)) (.inl ⟨by rfl, fun w' hw' => by go_simp⟩) hS ?_
                refine wpAnyH_all (rs := [4]) (by kernel_rfl) (by simp) ?_
                intro i hi'
                obtain rfl : i = 4 := by simpa using hi'
                refine wpOp_of rfl (by rfl) ?_
                go_simp
                by_cases hc16 : digB c < 16
                · refine (digit_ok c _ hS.2 hc16).mono ?_
                  rintro e w' ⟨rfl, rfl⟩
                  refine ⟨hS, ?_⟩
                  have hmul : IntKind.u8.wrap (16 * (digB c : Int)) = 16 * (digB c : Int) := IntWalk.u8_in _ (by omega)
                  refine wpAnyH_take (i := 5) (v := .int .u8 (16 * (digB c : Int))) rfl (by kernel_rfl) (by kernel_rfl) (by kernel_rfl) (QR_put (by decide) (by decide)) (.inl ⟨by rfl, fun w' hw' => by go_simp⟩) hS ?_
                  refine wpAnyH_all (rs := [10]) (by kernel_rfl) (by simp) ?_
                  intro i hi'
                  obtain rfl : i = 10 := by simpa using hi'
                  refine wpOp_of rfl (by rfl) ?_
                  go_simp
                  refine (digit_fails d _ hS.2 (fun h => hcd ⟨hc16, h⟩)).mono ?_
                  rintro e w' ⟨rfl, rfl⟩
                  exact ⟨⟨rfl, Rd_of hS.1⟩, rfl, rfl, rfl⟩
                · refine (digit_fails c _ hS.2 hc16).mono ?_
                  rintro e w' ⟨rfl, rfl⟩
                  exact ⟨⟨rfl, Rd_of hS.1⟩, rfl, rfl, rfl⟩
              · intro e a' w1 hq
                cases e with
                | panic ch => exact read_door rfl (fun w' hb => by rw [HXn.out]; exact ⟨rfl, hb⟩) hq
                | normal => exact hq.elim
                | exit id => exact hq.elim
                | goto l => exact hq.elim
                | ret => exact hq.elim
                | outgrown => exact hq.elim
          · have HXn := Aside0.mk (show X = none by rw [hrd.out, readL_short hlt2 hp2 (by simpa using hk2)]; rfl)
            have hb37 : (((s.data.toList.getD k 0).toNat : Int) == 37) = true := by rw [h37]; rfl
            generalize s.data.toList.getD k 0 = b at hix hp2 hb37
            have hd2 : decide ((k : Int) + 2 < (s.size : Int)) = false := decide_eq_false (by omega)
            clear h37
            go_wp2_with (first
              | (go_at_call 67; (with_reducible refine (plainB_calls _ _).mono ?_); rintro e w' ⟨rfl, rfl⟩; rw [hp2])
              | (go_at_call 68; (with_reducible refine (need_true _ _).mono ?_); rintro e w' ⟨rfl, rfl⟩) | (go_at_call 68; (with_reducible refine (need_false _ _).mono ?_); rintro e w' ⟨rfl, rfl⟩))
            exact read_door rfl (fun w' hb => by rw [HXn.out]; exact ⟨rfl, hb⟩) ⟨⟨rfl, Rd_of hbel.out⟩, rfl, rfl, rfl⟩
        · have HXn := Aside0.mk (show X = none by rw [hrd.out, readL_bad hlt2 hp2 h37]; rfl)
          have hne := ne37 h37
          generalize s.data.toList.getD k 0 = b at hix hp2 hne
          have hd : ((b.toNat : Int) == 37) = false := by simpa using hne
          clear h37
          go_wp2_with (first
            | (go_at_call 67; (with_reducible refine (plainB_calls _ _).mono ?_); rintro e w' ⟨rfl, rfl⟩; rw [hp2])
            | (go_at_call 68; (with_reducible refine (need_true _ _).mono ?_); rintro e w' ⟨rfl, rfl⟩) | (go_at_call 68; (with_reducible refine (need_false _ _).mono ?_); rintro e w' ⟨rfl, rfl⟩))
          exact read_door rfl (fun w' hb => by rw [HXn.out]; exact ⟨rfl, hb⟩) ⟨⟨rfl, Rd_of hbel.out⟩, rfl, rfl, rfl⟩
    · have hke : k = s.size := by omega
      have hXo : X = some out := by rw [hrd.out, hke, List.drop_of_length_le (by simp)]; simp [readL]
      obtain ⟨hB, c0, c1, f0, f1⟩ := Rd_of hbel.out
      have HB := Aside0.mk hB
      have hcv := strOf_bc Tryd.underlying57 Tryd.underlying5 Tryd.underlying9 hown.out
      have HXo := Aside0.mk hXo
      clear hB hXo hke hrd
      go_wp2
      have h4 : w.heap.size < wr.heap.size := by omega
      have h5 : w.heap.size + 1 < wr.heap.size := by omega
      refine leaves_cons (f := 66) (args := #[.pointer (some ⟨w.heap.size, 0, none⟩), .pointer (some ⟨w.heap.size + 1, 0, none⟩)]) (by simp) (by simp [go_sem]) ?_
      refine (caught_idle _ _ _).mono ?_
      rintro e u' w'' ⟨rfl, rfl, rfl⟩
      have hBf := (HB.out.setCell (p := ⟨w.heap.size, 0, none⟩) (by simp) (.string (ba out))).setCell (p := ⟨w.heap.size + 1, 0, none⟩) (by simp) (.int .i64 0)
      rw [HXo.out]
      show Leaves _ _ _ _ [] .returning _
      refine ⟨_, results37 _ _ w.heap.size (.string (ba out)) (.int .i64 0) rfl rfl ?_ ?_, rfl, hBf⟩
      all_goals simp [go_sem, c0, c1]
theorem text_Read.calls (a0 : ByteArray) (r1 : ByteArray) (r2 : Int) (w : World) (hG : LaidG w) (h : text_Read.f a0 = some (r1, r2)) :
    Calls Tryd.prog 37 #[.string a0] w fun e w' => e = .returned (.tuple #[.string r1, .int .i64 r2]) ∧ Below w.heap.size w w' := by
  unfold text_Read.f at h
  split at h
  · rename_i hs
    have hc := read_calls a0 w hG hs
    split at h
    · rename_i l hl
      cases h
      rw [hl] at hc
      exact hc
    · rename_i hl
      cases h
      rw [hl] at hc
      exact hc
  · cases h
end Go.Proofs.YtdcemnmbfblmiaaDoor.Given
