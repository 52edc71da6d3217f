/- The contract of text.split: the parts of the text between the occurrences, in a row of its own. -/
import Derived.Test.YtdcemnmbfblmiaaDoorGm
set_option linter.unusedVariables false
set_option linter.unusedSimpArgs false
namespace Go.Proofs.YtdcemnmbfblmiaaDoor.Given
open Go.RowKit Go.Shelf Go.Proofs.YtdcemnmbfblmiaaDoorW.PrintWords Go.Proofs.YtdcemnmbfblmiaaDoorW.PrintLast Go.Proofs.YtdcemnmbfblmiaaDoorW.PrintMore
attribute [local go_sem] Oper.semAt_some

theorem wpInop_append_own {F : Fence} {n : Nat} {P : Program} (w : World) {o : Oper} {a : Act} {K : Act → World → Prop} {Q : Exit → Act → World → Prop}
    (s x : Operand) (t : TypeId) (hop : o.op = Op.call { callee := Callee.builtin Builtin.append, args := #[s, x], argTypes := #[t, t] })
    (base : Nat) (e : TypeId) (i : TypeInfo) (z : Value) (size bytes : Nat) (h1 : P.underlying t = some (.slice e)) (h2 : P.info? e = some i) (h3 : i.zero = some z) (h4 : i.size = size) (h5 : i.bytes = bytes) (h6 : z.cells.size = size) (h7 : 0 < size)
    (v : Value) (k : Nat) (xs : List Value) (hs : a.eval s = v) (hown : w.ownsRow base e size v k xs) (ad : Addr) (m c : Nat) (news : List Value) (hx : a.eval x = .slice (some ad) m c) (hn : news.length = m * size)
    (hc : ∀ j u, news[j]? = some u → w.cell? (ad.add j) = some u) (h1c : ∀ u ∈ news, u.oneCell' = true) (b1 : k + m ≤ maxLen) (b2 : (k + m) * bytes ≤ 140737488355328) (b3 : base ≤ w.heap.size)
    (hK : ∀ v' w', w'.ownsRow base e size v' (k + m) (xs ++ news) → w.grownBy w' v.ownBlock → K (a.put o.dst v') w') : o.wpIn F n P a w K Q := by
  obtain ⟨v', w', hrun, r1, r2, r3⟩ := run_append_own (P := P) w base t o.type e i z size bytes h1 h2 h3 h4 h5 h6 h7 v k xs hown ad m c news hn hc h1c b1 b2 b3
  unfold Oper.wpIn
  refine ⟨?_, ?_⟩
  · simp [Oper.about, hop, resolve, Target.leads, Sem.run_pure]
  · rw [Oper.semAt_plain F _ _ (by rw [hop]; intro c hc'; cases hc')]
    simp [execOp, hop, resolve, invoke, builtin, hs, hx, hrun, Result.andThen]
    exact hK _ _ r1 r2
/-! ### the parts -/
def fromOf (m : Nat) : Int → List Int → Int
  | f, [] => f
  | _, x :: r => fromOf m (x + m) r
def pcs (s : ByteArray) (m : Nat) : Int → List Int → List ByteArray
  | _, [] => []
  | f, x :: r => s.extract f.toNat x.toNat :: pcs s m (x + m) r
theorem fromOf_snoc (m : Nat) : ∀ (pre : List Int) (f x : Int), fromOf m f (pre ++ [x]) = x + m
  | [], _, _ => rfl
  | _ :: r, _, x => fromOf_snoc m r _ x
theorem pcs_snoc (s : ByteArray) (m : Nat) : ∀ (pre : List Int) (f x : Int), pcs s m f (pre ++ [x]) = pcs s m f pre ++ [s.extract (fromOf m f pre).toNat x.toNat]
  | [], _, _ => rfl
  | y :: r, f, x => by simp only [List.cons_append, pcs, fromOf]; rw [pcs_snoc s m r (y + m) x]
theorem pcs_len (s : ByteArray) (m : Nat) : ∀ (pre : List Int) (f : Int), (pcs s m f pre).length = pre.length
  | [], _ => rfl
  | y :: r, f => by simp only [pcs, List.length_cons]; rw [pcs_len s m r (y + m)]
theorem occs_valid {sep : List UInt8} : ∀ (pre : List Int) (k : Nat) (r : List UInt8) (a : Nat) (x : Int) (t : List Int), pre ++ [x] ++ t = occs sep k r a →
    (a : Int) ≤ fromOf sep.length a pre ∧ fromOf sep.length a pre ≤ x ∧ x + sep.length ≤ a + r.length := by
  intro pre
  induction pre with
  | nil =>
    intro k r a x t h
    cases k with
    | zero => simp [occs] at h
    | succ k =>
      by_cases hi : Lib.index r sep < 0
      · rw [occs_none hi] at h; simp at h
      · obtain ⟨i, hi2⟩ : ∃ i : Nat, Lib.index r sep = i := ⟨(Lib.index r sep).toNat, by omega⟩
        have hroom := Lib.index_room r sep (by omega)
        rw [occs_some hi2] at h
        simp at h
        obtain ⟨h1, _⟩ := h
        simp only [fromOf]
        omega
  | cons y pre ih =>
    intro k r a x t h
    cases k with
    | zero => simp [occs] at h
    | succ k =>
      by_cases hi : Lib.index r sep < 0
      · rw [occs_none hi] at h; simp at h
      · obtain ⟨i, hi2⟩ : ∃ i : Nat, Lib.index r sep = i := ⟨(Lib.index r sep).toNat, by omega⟩
        have hroom := Lib.index_room r sep (by omega)
        rw [occs_some hi2, List.cons_append, List.cons_append] at h
        obtain ⟨h1, h2⟩ := List.cons.inj h
        have := ih k _ _ x t h2
        rw [List.length_drop] at this
        simp only [fromOf]
        rw [h1, show ((a + i : Nat) : Int) + (sep.length : Int) = ((a + i + sep.length : Nat) : Int) by omega]
        omega
theorem occs_len {sep : List UInt8} (h0 : sep ≠ []) : ∀ (k : Nat) (r : List UInt8) (a : Nat), (occs sep k r a).length ≤ k
  | 0, _, _ => by simp [occs]
  | k + 1, r, a => by
    unfold occs
    split
    · simp
    · simp only [List.length_cons]
      have := occs_len h0 k (r.drop ((Lib.index r sep).toNat + sep.length)) (a + (Lib.index r sep).toNat + sep.length)
      omega
theorem piece_list (s : ByteArray) (a b : Nat) : s.extract a b = ba ((s.data.toList.drop a).take (b - a)) := by
  have h : (s.extract a b).data.toList = (s.data.toList.drop a).take (b - a) := by simp
  unfold ba
  rw [← h]
theorem pcs_all (s : ByteArray) {sep : List UInt8} : ∀ (k a : Nat), a ≤ s.size →
    pcs s sep.length a (occs sep k (s.data.toList.drop a) a) ++ [s.extract (fromOf sep.length a (occs sep k (s.data.toList.drop a) a)).toNat s.size] = (splitL sep k (s.data.toList.drop a)).map ba := by
  intro k
  induction k with
  | zero =>
    intro a ha
    simp only [occs, pcs, fromOf, splitL, List.map_cons, List.map_nil, List.nil_append, Int.toNat_natCast]
    rw [piece_list, List.take_of_length_le (by simp)]
  | succ k ih =>
    intro a ha
    by_cases hi : Lib.index (s.data.toList.drop a) sep < 0
    · rw [occs_none hi]
      unfold splitL
      rw [if_pos hi]
      simp only [pcs, fromOf, List.map_cons, List.map_nil, List.nil_append, Int.toNat_natCast]
      rw [piece_list, List.take_of_length_le (by simp)]
    · obtain ⟨i, hi2⟩ : ∃ i : Nat, Lib.index (s.data.toList.drop a) sep = i := ⟨(Lib.index (s.data.toList.drop a) sep).toNat, by omega⟩
      have hroom := Lib.index_room (s.data.toList.drop a) sep (by omega)
      have hl : s.data.toList.length = s.size := by simp
      rw [hi2, List.length_drop, hl] at hroom
      have h1 := ih (a + i + sep.length) (by omega)
      have hd : (s.data.toList.drop a).drop (i + sep.length) = s.data.toList.drop (a + i + sep.length) := by rw [List.drop_drop]; congr 1; omega
      rw [occs_some hi2, hd]
      unfold splitL
      rw [if_neg hi, hi2, Int.toNat_natCast, hd, List.map_cons, ← h1]
      simp only [pcs, fromOf, List.cons_append, Int.toNat_natCast]
      rw [show ((a + i : Nat) : Int) + (sep.length : Int) = ((a + i + sep.length : Nat) : Int) by omega, piece_list s a (a + i), show a + i - a = i by omega]
theorem info9 : (Tryd.prog.info? 9).map (fun i => (i.zero, i.size, i.bytes)) = some (some (.string ByteArray.empty), 1, 16) := by kernel_rfl
theorem occur_in (n : Nat) (s sep : ByteArray) (w : World) : CallsIn Fence.wide n Tryd.prog 84 #[.string s, .string sep] w fun e w' => e = .returned (.func (.func 97) #[] #[.pointer (some ⟨w.heap.size, 0, none⟩), .pointer (some ⟨w.heap.size + 1, 0, none⟩)]) ∧ w' = (w.alloc (.cells #[.string s] 9)).alloc (.cells #[.string sep] 9) := by
  refine callsIn_wide.2 ?_
  go_enter Tryd.func84, Tryd.ntmps84
  go_wp2
  go_ret
  exact ⟨rfl, rfl⟩
/-- the world behind the six boxes -/
def wS (s sep : ByteArray) (w : World) : World := (((((w.alloc (.cells #[.string s] 9)).alloc (.cells #[.string sep] 9)).alloc (.cells #[.slice none 0 0] 33)).alloc (.cells #[.int .i64 0] 3)).alloc (.cells #[.string s] 9)).alloc (.cells #[.string sep] 9)
theorem wS_size (s sep : ByteArray) (w : World) : (wS s sep w).heap.size = w.heap.size + 6 := by simp [wS]
/-- what holds between two rounds -/
structure SI (s sep : ByteArray) (w : World) (pre : List Int) (W : World) : Prop where
  below : Below w.heap.size w W
  size : w.heap.size + 6 ≤ W.heap.size
  x0 : Boxed W w.heap.size 9 (.string s)
  x1 : Boxed W (w.heap.size + 1) 9 (.string sep)
  x3 : Boxed W (w.heap.size + 1 + 1 + 1) 3 (.int .i64 (fromOf sep.data.toList.length 0 pre))
  x4 : Boxed W (w.heap.size + 1 + 1 + 1 + 1) 9 (.string s)
  x5 : Boxed W (w.heap.size + 1 + 1 + 1 + 1 + 1) 9 (.string sep)
  row : ∃ v, Boxed W (w.heap.size + 1 + 1) 33 v ∧ W.ownsRow (w.heap.size + 6) 9 1 v pre.length ((pcs s sep.data.toList.length 0 pre).map Value.string)
theorem SI_start (s sep : ByteArray) (w : World) : SI s sep w [] (wS s sep w) := by
  refine ⟨?_, by rw [wS_size]; exact Nat.le_refl _, ?_, ?_, ?_, ?_, ?_, .slice none 0 0, ?_, World.ownsRow_nil _ _ _ _⟩
  · exact ((((((Below.refl _ _).alloc (Nat.le_refl _) _).alloc (by simp) _).alloc (by simp; omega) _).alloc (by simp; omega) _).alloc (by simp; omega) _).alloc (by simp; omega) _
  · exact (((((Boxed.new w 9 (.string s)).alloc _).alloc _).alloc _).alloc _).alloc _
  · have := Boxed.new (w.alloc (.cells #[.string s] 9)) 9 (.string sep)
    simp only [World.size_alloc] at this
    exact (((this.alloc _).alloc _).alloc _).alloc _
  · have := Boxed.new (((w.alloc (.cells #[.string s] 9)).alloc (.cells #[.string sep] 9)).alloc (.cells #[.slice none 0 0] 33)) 3 (.int .i64 0)
    simp only [World.size_alloc] at this
    exact (this.alloc _).alloc _
  · have := Boxed.new ((((w.alloc (.cells #[.string s] 9)).alloc (.cells #[.string sep] 9)).alloc (.cells #[.slice none 0 0] 33)).alloc (.cells #[.int .i64 0] 3)) 9 (.string s)
    simp only [World.size_alloc] at this
    exact this.alloc _
  · have := Boxed.new (((((w.alloc (.cells #[.string s] 9)).alloc (.cells #[.string sep] 9)).alloc (.cells #[.slice none 0 0] 33)).alloc (.cells #[.int .i64 0] 3)).alloc (.cells #[.string s] 9)) 9 (.string sep)
    simp only [World.size_alloc] at this
    exact this
  · have := Boxed.new ((w.alloc (.cells #[.string s] 9)).alloc (.cells #[.string sep] 9)) 33 (.slice none 0 0)
    simp only [World.size_alloc] at this
    exact ((this.alloc _).alloc _).alloc _
theorem OwnFrom.alloc_drew {β : Type} {B : Nat} {I : β → World → Prop} (h : OwnFrom B I) {x : β} {W : World} (hs : I x W) : I x W.drew := h x W _ none hs ⟨rfl, rfl, rfl, Nat.le_refl _, fun _ _ _ => rfl⟩ (fun r e => by cases e)
theorem SI_own (s sep : ByteArray) (w : World) : OwnFrom (w.heap.size + 6) (SI s sep w) := by
  rintro pre W W' row ⟨hB, hz, h0, h1, h3, h4, h5, v, hv, hown⟩ hg hr
  have ne : ∀ k, k < w.heap.size + 6 → some k ≠ row := fun k hk e => by have := (hr k e.symm).1; omega
  refine ⟨hB.grown hg (by omega) (fun k e => by have := (hr k e).1; omega), Nat.le_trans hz hg.size, h0.kept hg (ne _ (by omega)), h1.kept hg (ne _ (by omega)), h3.kept hg (ne _ (by omega)), h4.kept hg (ne _ (by omega)), h5.kept hg (ne _ (by omega)), v, hv.kept hg (ne _ (by omega)), hown.kept hg ?_⟩
  rcases hown.2 with ⟨rfl, _⟩ | ⟨g, cap, cur, rfl, _, hgb, _⟩
  · exact .inl rfl
  · refine .inr fun e' => ?_
    obtain ⟨_, o, ho, hc⟩ := hr g (by simpa [Value.ownBlock] using e'.symm)
    rw [hgb] at ho; cases ho; cases hc
set_option maxRecDepth 100000 in
set_option maxHeartbeats 2000000 in
theorem split_in (s sep : ByteArray) (w : World) (hG : LaidG w) (hsep : sep.data.toList ≠ []) (hs : s.size ≤ 1000000000) (hp : sep.size ≤ 1000000000) :
    CallsIn Fence.wide 6 Tryd.prog 62 #[.string s, .string sep] w fun e w' => ∃ v, e = .returned v ∧ w'.ownsRow w.heap.size 9 1 v ((splitL sep.data.toList s.size s.data.toList).map ba).length (((splitL sep.data.toList s.size s.data.toList).map ba).map Value.string) ∧ Below w.heap.size w w' := by
  obtain ⟨i0, hi, hz0, hz1, hz2⟩ := info_parts info9
  have HG := Aside0.mk hG
  have hF84 : Fence.wide.fn 84 := trivial
  have h16 : 1 ≤ 6 := by decide
  clear hG
  refine callsIn_of_wp_marks Tryd.func62 rfl trivial ?_ rfl
  simp only [Tryd.ntmps62, List.size_toArray, List.length_cons, List.length_nil, Nat.reduceAdd, Nat.reduceSub, Array.replicate_succ, Array.replicate_zero, List.push_toArray, List.append_toArray, List.nil_append, List.cons_append]
  gi_wp2_with (gi_at_call 84; refine (occur_in _ _ _ _).mono ?_; rintro e w' ⟨rfl, rfl⟩)
  change Code.wpIn _ _ _ _ _ _ (wS s sep w)
  refine range_valid rfl h16 (gf := 97) (lb := #[.pointer (some ⟨w.heap.size + 1 + 1 + 1 + 1, 0, none⟩), .pointer (some ⟨w.heap.size + 1 + 1 + 1 + 1 + 1, 0, none⟩)]) rfl trivial (enters_of Tryd.func97 (by kernel_rfl) rfl)
    (fun W1 => W1.cell? ⟨w.heap.size + 1 + 1 + 1 + 1, 0, none⟩ = some (.string s) ∧ W1.cell? ⟨w.heap.size + 1 + 1 + 1 + 1 + 1, 0, none⟩ = some (.string sep) ∧ ∃ m : Int, W1.cell? ⟨1, 0, none⟩ = some (.int .i64 m))
    (fun pre x => ∃ t, pre ++ [x] ++ t = occs sep.data.toList s.size s.data.toList 0) (occs sep.data.toList s.size s.data.toList 0)
    (fun l J W hC hY h0 => occ_in 5 (by decide) l _ _ s sep hsep hs hp J hC hY W h0) rfl (SI s sep w) (by rw [wS_size]; exact SI_own s sep w)
    (fun pre W h => ⟨h.x4.cell, h.x5.cell, (HG.out.keep W h.below).2⟩) (SI_start s sep w)
    (fun x => { tmps := #[.string s, .string sep, .pointer (some ⟨w.heap.size, 0, none⟩), .pointer (some ⟨w.heap.size + 1, 0, none⟩), .slice none 0 0, .pointer (some ⟨w.heap.size + 1 + 1, 0, none⟩), .pointer (some ⟨w.heap.size + 1 + 1 + 1, 0, none⟩), .int .i64 x, .string s, .string sep,
      .func (.func 97) #[] #[.pointer (some ⟨w.heap.size + 1 + 1 + 1 + 1, 0, none⟩), .pointer (some ⟨w.heap.size + 1 + 1 + 1 + 1 + 1, 0, none⟩)], .int .i64 x, undef, undef, undef, undef, undef, undef, undef, undef, undef, undef, undef, undef, undef, undef, undef, undef, undef], defers := [] }) ?assign ?body ?done
  case assign =>
    intro l x W K hK
    gi_wp2
    exact hK
  case body =>
    rintro l pre x W hGx hI
    have hmx : Tryd.prog.follows .mixedOrders = true := by kernel_rfl
    obtain ⟨t, ht⟩ := hGx
    obtain ⟨g1, g2, g3⟩ := occs_valid _ _ _ 0 _ _ ht
    have hlen := occs_len hsep s.size s.data.toList 0
    rw [← ht, List.length_append, List.length_append, List.length_singleton] at hlen
    have hsl : sep.data.toList.length = sep.size := by simp
    have hsl2 : s.data.toList.length = s.size := by simp
    have hsn := pcs_snoc s sep.data.toList.length pre 0 x
    have hfn := fromOf_snoc sep.data.toList.length pre 0 x
    have hwx : IntKind.i64.wrap (x + (sep.size : Int)) = x + (sep.size : Int) := IntWalk.i64_in _ (by omega)
    have HI := Aside0.mk hI
    have HS := Aside0.mk hsn
    have HF := Aside0.mk hfn
    rw [hsl2] at g3
    clear hsn hfn ht hI
    gi_wp2
    have hI2 := OwnFrom.alloc_drew (SI_own s sep w) HI.out
    obtain ⟨hB, hz, x0, x1, x3, x4, x5, v, hv, hown⟩ := hI2
    have hKO : KeepsOthers W W.drew := KeepsOthers.drew _
    refine wpIn_mono (Q := NoPanic _) ?_ NoPanic.imp
    refine wpIn_region_held 7 (S := fun W' => W'.cell? ⟨w.heap.size + 1 + 1, 0, none⟩ = some v ∧ W'.cell? ⟨w.heap.size, 0, none⟩ = some (.string s) ∧ W'.cell? ⟨w.heap.size + 1 + 1 + 1, 0, none⟩ = some (.int .i64 (fromOf sep.data.toList.length 0 pre))) (by kernel_rfl) ?_
    change wpAnyHIn _ _ _ _ _ _ _ _ _ _ _ W.drew
    have HKO := Aside0.mk hKO
    have hS : (fun W' : World => W'.cell? ⟨w.heap.size + 1 + 1, 0, none⟩ = some v ∧ W'.cell? ⟨w.heap.size, 0, none⟩ = some (.string s) ∧ W'.cell? ⟨w.heap.size + 1 + 1 + 1, 0, none⟩ = some (.int .i64 (fromOf sep.data.toList.length 0 pre))) W.drew := ⟨hv.cell, x0.cell, x3.cell⟩
    clear hKO HI
    generalize W.drew = W2 at hB hz x0 x1 x3 x4 x5 hv hown HKO hS ⊢
    generalize hfr : fromOf sep.data.toList.length 0 pre = fr at g1 g2 x3 hS HS
    have g1' : 0 ≤ fr := by omega
    have gx0 : 0 ≤ x := by omega
    have gxs : x ≤ (s.size : Int) := by omega
    refine wpAnyHIn_take (i := 0) (v := v) (by kernel_rfl) (by kernel_rfl) rfl (by kernel_rfl) (by kernel_rfl) (by kernel_rfl) (fun _ _ _ h => h) (fun _ => by rfl) (.inl ⟨by rfl, fun w' hw' => by obtain ⟨e1, e2, e3⟩ := hw'; go_simp⟩) hS ?_
    refine wpAnyHIn_take (i := 1) (v := .string s) (by kernel_rfl) (by kernel_rfl) rfl (by kernel_rfl) (by kernel_rfl) (by kernel_rfl) (fun _ _ _ h => h) (fun _ => by rfl) (.inl ⟨by rfl, fun w' hw' => by obtain ⟨e1, e2, e3⟩ := hw'; go_simp⟩) hS ?_
    refine wpAnyHIn_take (i := 2) (v := .int .i64 fr) (by kernel_rfl) (by kernel_rfl) rfl (by kernel_rfl) (by kernel_rfl) (by kernel_rfl) (fun _ _ _ h => h) (fun _ => by rfl) (.inl ⟨by rfl, fun w' hw' => by obtain ⟨e1, e2, e3⟩ := hw'; go_simp⟩) hS ?_
    refine wpAnyHIn_take (i := 3) (v := .int .i64 x) (by kernel_rfl) (by kernel_rfl) rfl (by kernel_rfl) (by kernel_rfl) (by kernel_rfl) (fun _ _ _ h => h) (fun _ => by rfl) (.inl ⟨by rfl, fun w' hw' => by go_simp⟩) hS ?_
    refine wpAnyHIn_take (i := 4) (v := .string (s.extract fr.toNat x.toNat)) (by kernel_rfl) (by kernel_rfl) rfl (by kernel_rfl) (by kernel_rfl) (by kernel_rfl) (fun _ _ _ h => h) (fun _ => by rfl) (.inl ⟨by rfl, fun w' hw' => by go_simp⟩) hS ?_
    generalize s.extract fr.toNat x.toNat = pc at HS ⊢
    refine wpAnyHIn_all (rs := [5]) (by kernel_rfl) (by simp) ?_
    intro i hi'
    obtain rfl : i = 5 := by simpa using hi'
    refine wpOpIn_of rfl (by rfl) ?_
    go_simp
    refine ⟨⟨(hv.alloc _).cell, (x0.alloc _).cell, (x3.alloc _).cell⟩, ?_⟩
    refine wpAnyHIn_all (rs := [6]) (by kernel_rfl) (by simp) ?_
    intro i hi'
    obtain rfl : i = 6 := by simpa using hi'
    refine wpOpIn_of rfl (by rfl) ?_
    refine wpInop_append_own _ _ _ 33 rfl (w.heap.size + 6) 9 i0 (.string ByteArray.empty) 1 16 Tryd.underlying33 hi hz0 hz1 hz2 rfl (by decide) _ _ _ rfl (hown.alloc _) ⟨W2.heap.size, 0, none⟩ 1 1 [.string pc] rfl rfl (cell_one_new _ _ _) (by simp [Value.oneCell']) (by unfold maxLen; omega) (by omega) (by simp; omega) ?_
    intro v' w3 hown' hgrow'
    have hgrow : (W2.alloc (.cells #[.string pc] 9)).grownBy w3 v.ownBlock := hgrow'
    clear hgrow'
    have ne : ∀ k, k < w.heap.size + 6 → some k ≠ v.ownBlock := fun k hk e => by have := (hown.lt k e.symm).1; omega
    have hv3 := (hv.alloc (.cells #[.string pc] 9)).kept hgrow (ne _ (by omega))
    have y0 := (x0.alloc (.cells #[.string pc] 9)).kept hgrow (ne _ (by omega))
    have y1 := (x1.alloc (.cells #[.string pc] 9)).kept hgrow (ne _ (by omega))
    have y3 := (x3.alloc (.cells #[.string pc] 9)).kept hgrow (ne _ (by omega))
    have y4 := (x4.alloc (.cells #[.string pc] 9)).kept hgrow (ne _ (by omega))
    have y5 := (x5.alloc (.cells #[.string pc] 9)).kept hgrow (ne _ (by omega))
    have hB3 : Below w.heap.size w w3 := (hB.alloc (by omega) _).grown hgrow (by simp; omega) (fun k e => by have := (hown.lt k e).1; omega)
    have hz3 : w.heap.size + 6 ≤ w3.heap.size := by have := hgrow.size; simp at this; omega
    have hKO3 : KeepsOthers W w3 := (HKO.out.trans (KeepsOthers.alloc _ _)).trans (KeepsOthers.of_grownBy hgrow fun j o ej hj => by
      rcases (hown.alloc (.cells #[.string pc] 9)).2 with ⟨rfl, _⟩ | ⟨g, cap, cur, rfl, _, hgb, _⟩
      · simp [Value.ownBlock] at ej
      · obtain rfl : g = j := by simpa [Value.ownBlock] using ej
        rw [hgb] at hj; cases hj; rfl)
    have hS3 : (fun W' : World => W'.cell? ⟨w.heap.size + 1 + 1, 0, none⟩ = some v ∧ W'.cell? ⟨w.heap.size, 0, none⟩ = some (.string s) ∧ W'.cell? ⟨w.heap.size + 1 + 1 + 1, 0, none⟩ = some (.int .i64 fr)) w3 := ⟨hv3.cell, y0.cell, y3.cell⟩
    refine ⟨fun _ => hS3, ?_⟩
    refine wpAnyHIn_all (rs := [7]) (by kernel_rfl) (by simp) ?_
    intro i hi'
    obtain rfl : i = 7 := by simpa using hi'
    refine wpOpIn_of rfl (by rfl) ?_
    have hc3 := hv3.cell
    have hf3 := hv3.frozen
    obtain ⟨g', cap', hvv⟩ := ownsRow_succ hown'
    subst hvv
    clear hS hS3 hgrow hown hB hz x0 x1 x3 x4 x5 hv
    go_simp
    refine wpAnyHIn_done (by kernel_rfl) (NoPanic.normal ?_) _
    have ne3 : ∀ k, k < w.heap.size + 6 → some k ≠ (Value.slice (some ⟨g', 0, none⟩) (pre.length + 1) cap').ownBlock := fun k hk e => by have := (hown'.lt k e.symm).1; omega
    have hgs := grownBy_setCell' w3 (w.heap.size + 1 + 1) (.slice (some ⟨g', 0, none⟩) (pre.length + 1) cap')
    have nn : ∀ k, k < w.heap.size + 6 → k ≠ w.heap.size + 1 + 1 → some k ≠ some (w.heap.size + 1 + 1) := fun k _ h e => h (by cases e; rfl)
    have z0 := Aside0.mk (y0.kept hgs (nn _ (by omega) (by omega)))
    have z1 := y1.kept hgs (nn _ (by omega) (by omega))
    have z3 := y3.kept hgs (nn _ (by omega) (by omega))
    have z4 := Aside0.mk (y4.kept hgs (nn _ (by omega) (by omega)))
    have z5 := Aside0.mk (y5.kept hgs (nn _ (by omega) (by omega)))
    have z2 := Aside0.mk (hv3.set (.slice (some ⟨g', 0, none⟩) (pre.length + 1) cap'))
    have hownZ := Aside0.mk (hown'.kept hgs (.inr (fun e => ne3 _ (by omega) e.symm)))
    have hBZ := Aside0.mk (hB3.setCell (p := ⟨w.heap.size + 1 + 1, 0, none⟩) (by simp; omega) (.slice (some ⟨g', 0, none⟩) (pre.length + 1) cap'))
    have hKOZ := Aside0.mk (hKO3.trans (KeepsOthers.setCell w3 ⟨w.heap.size + 1 + 1, 0, none⟩ (.slice (some ⟨g', 0, none⟩) (pre.length + 1) cap')))
    have hzZ : w.heap.size + 6 ≤ (w3.setCell ⟨w.heap.size + 1 + 1, 0, none⟩ (.slice (some ⟨g', 0, none⟩) (pre.length + 1) cap')).heap.size := by simpa using hz3
    clear hc3 hf3 hv3 y0 y1 y3 y4 y5 hB3 hKO3 hgs hown' ne3 nn hz3 ne HKO
    generalize w3.setCell ⟨w.heap.size + 1 + 1, 0, none⟩ (.slice (some ⟨g', 0, none⟩) (pre.length + 1) cap') = w4 at z0 z1 z2 z3 z4 z5 hownZ hBZ hKOZ hzZ ⊢
    have d1 := z1.cell
    have d3 := z3.cell
    have f3 := z3.frozen
    have Z1 := Aside0.mk z1
    have Z3 := Aside0.mk z3
    clear z1 z3
    change Exit.then _ _ _ _ _
    gi_wp2
    have hgs := grownBy_setCell' w4 (w.heap.size + 1 + 1 + 1) (.int .i64 (x + sep.size))
    have nn : ∀ k, k < w.heap.size + 6 → k ≠ w.heap.size + 1 + 1 + 1 → some k ≠ some (w.heap.size + 1 + 1 + 1) := fun k _ h e => h (by cases e; rfl)
    refine ⟨hKOZ.out.trans (KeepsOthers.setCell _ _ _), ?_⟩
    refine ⟨hBZ.out.setCell (p := ⟨w.heap.size + 1 + 1 + 1, 0, none⟩) (by simp; omega) _, by simpa using hzZ, z0.out.kept hgs (nn _ (by omega) (by omega)), Z1.out.kept hgs (nn _ (by omega) (by omega)), ?_, z4.out.kept hgs (nn _ (by omega) (by omega)), z5.out.kept hgs (nn _ (by omega) (by omega)), _, z2.out.kept hgs (nn _ (by omega) (by omega)), ?_⟩
    · rw [HF.out, hsl]
      exact Z3.out.set _
    · rw [HS.out, List.map_append, List.length_append]
      exact hownZ.out.kept hgs (.inr (fun e => by have := (hownZ.out.lt _ e).1; omega))
  case done =>
    rintro D W hD hI hK
    rw [wS_size] at hD
    have hlen := occs_len hsep s.size s.data.toList 0
    have hall := pcs_all s (sep := sep.data.toList) s.size 0 (by omega)
    rw [List.drop_zero] at hall
    have HALL := Aside0.mk hall
    have hgf : 0 ≤ fromOf sep.data.toList.length 0 (occs sep.data.toList s.size s.data.toList 0) ∧ fromOf sep.data.toList.length 0 (occs sep.data.toList s.size s.data.toList 0) ≤ (s.size : Int) := by
      have hsl2 : s.data.toList.length = s.size := by simp
      rcases List.eq_nil_or_concat (occs sep.data.toList s.size s.data.toList 0) with h | ⟨pre, x, h⟩
      · rw [h]; simp [fromOf]
      · have := occs_valid pre s.size s.data.toList 0 x [] (by rw [h]; simp)
        rw [h, List.concat_eq_append, fromOf_snoc]
        omega
    obtain ⟨g1, g2⟩ := hgf
    have hK2 : W.drew.heap[D]? = some (.deferred (some [])) := hK
    have hI2 := OwnFrom.alloc_drew (SI_own s sep w) hI
    obtain ⟨hB, hz, x0, x1, x3, x4, x5, v, hv, hown⟩ := hI2
    clear hall hI hK
    gi_wp2
    refine wpIn_mono (Q := NoPanic _) ?_ NoPanic.imp
    refine wpIn_region_held 6 (S := fun W' => W'.cell? ⟨w.heap.size + 1 + 1, 0, none⟩ = some v ∧ W'.cell? ⟨w.heap.size, 0, none⟩ = some (.string s) ∧ W'.cell? ⟨w.heap.size + 1 + 1 + 1, 0, none⟩ = some (.int .i64 (fromOf sep.data.toList.length 0 (occs sep.data.toList s.size s.data.toList 0)))) (by kernel_rfl) ?_
    change wpAnyHIn _ _ _ _ _ _ _ _ _ _ _ W.drew
    have hS : (fun W' : World => W'.cell? ⟨w.heap.size + 1 + 1, 0, none⟩ = some v ∧ W'.cell? ⟨w.heap.size, 0, none⟩ = some (.string s) ∧ W'.cell? ⟨w.heap.size + 1 + 1 + 1, 0, none⟩ = some (.int .i64 (fromOf sep.data.toList.length 0 (occs sep.data.toList s.size s.data.toList 0)))) W.drew := ⟨hv.cell, x0.cell, x3.cell⟩
    generalize W.drew = W2 at hB hz x0 x1 x3 x4 x5 hv hown hS hK2 ⊢
    generalize occs sep.data.toList s.size s.data.toList 0 = oc at HALL g1 g2 hlen hown hS x3 ⊢
    generalize hfr : fromOf sep.data.toList.length 0 oc = fr at g1 g2 x3 hS
    rw [show ((0 : Nat) : Int) = 0 from rfl, hfr] at HALL
    clear x1 x4 x5 hfr
    refine wpAnyHIn_take (i := 0) (v := v) (by kernel_rfl) (by kernel_rfl) rfl (by kernel_rfl) (by kernel_rfl) (by kernel_rfl) (fun _ _ _ h => h) (fun _ => by rfl) (.inl ⟨by rfl, fun w' hw' => by obtain ⟨e1, e2, e3⟩ := hw'; go_simp⟩) hS ?_
    refine wpAnyHIn_take (i := 1) (v := .string s) (by kernel_rfl) (by kernel_rfl) rfl (by kernel_rfl) (by kernel_rfl) (by kernel_rfl) (fun _ _ _ h => h) (fun _ => by rfl) (.inl ⟨by rfl, fun w' hw' => by obtain ⟨e1, e2, e3⟩ := hw'; go_simp⟩) hS ?_
    refine wpAnyHIn_take (i := 2) (v := .int .i64 fr) (by kernel_rfl) (by kernel_rfl) rfl (by kernel_rfl) (by kernel_rfl) (by kernel_rfl) (fun _ _ _ h => h) (fun _ => by rfl) (.inl ⟨by rfl, fun w' hw' => by obtain ⟨e1, e2, e3⟩ := hw'; go_simp⟩) hS ?_
    refine wpAnyHIn_take (i := 3) (v := .string (s.extract fr.toNat s.size)) (by kernel_rfl) (by kernel_rfl) rfl (by kernel_rfl) (by kernel_rfl) (by kernel_rfl) (fun _ _ _ h => h) (fun _ => by rfl) (.inl ⟨by rfl, fun w' hw' => by go_simp⟩) hS ?_
    generalize s.extract fr.toNat s.size = pc at HALL ⊢
    refine wpAnyHIn_all (rs := [4]) (by kernel_rfl) (by simp) ?_
    intro i hi'
    obtain rfl : i = 4 := by simpa using hi'
    refine wpOpIn_of rfl (by rfl) ?_
    go_simp
    refine ⟨⟨(hv.alloc _).cell, (x0.alloc _).cell, (x3.alloc _).cell⟩, ?_⟩
    refine wpAnyHIn_all (rs := [5]) (by kernel_rfl) (by simp) ?_
    intro i hi'
    obtain rfl : i = 5 := by simpa using hi'
    refine wpOpIn_of rfl (by rfl) ?_
    refine wpInop_append_own _ _ _ 33 rfl (w.heap.size + 6) 9 i0 (.string ByteArray.empty) 1 16 Tryd.underlying33 hi hz0 hz1 hz2 rfl (by decide) _ _ _ rfl (hown.alloc _) ⟨W2.heap.size, 0, none⟩ 1 1 [.string pc] rfl rfl (cell_one_new _ _ _) (by simp [Value.oneCell']) (by unfold maxLen; omega) (by omega) (by simp; omega) ?_
    intro v' w3 hown' hgrow'
    have hgrow : (W2.alloc (.cells #[.string pc] 9)).grownBy w3 v.ownBlock := hgrow'
    clear hgrow'
    have ne : ∀ k, k < w.heap.size + 6 → some k ≠ v.ownBlock := fun k hk e => by have := (hown.lt k e.symm).1; omega
    have hv3 := (hv.alloc (.cells #[.string pc] 9)).kept hgrow (ne _ (by omega))
    have y0 := (x0.alloc (.cells #[.string pc] 9)).kept hgrow (ne _ (by omega))
    have y3 := (x3.alloc (.cells #[.string pc] 9)).kept hgrow (ne _ (by omega))
    have hB3 := Aside0.mk (show Below w.heap.size w w3 from (hB.alloc (by omega) _).grown hgrow (by simp; omega) (fun k e => by have := (hown.lt k e).1; omega))
    have hK3 : w3.heap[D]? = some (.deferred (some [])) := (hgrow.block D (by have := (Array.getElem?_eq_some_iff.1 hK2).1; simp; omega) (fun e => by
      rcases hown.2 with ⟨rfl, _⟩ | ⟨g, cap, cur, rfl, _, hgb, _⟩
      · simp [Value.ownBlock] at e
      · obtain rfl : D = g := by simpa [Value.ownBlock] using e
        rw [hgb] at hK2; cases hK2)).trans ((Below.heap_alloc W2 _ D (Array.getElem?_eq_some_iff.1 hK2).1).trans hK2)
    have hS3 : (fun W' : World => W'.cell? ⟨w.heap.size + 1 + 1, 0, none⟩ = some v ∧ W'.cell? ⟨w.heap.size, 0, none⟩ = some (.string s) ∧ W'.cell? ⟨w.heap.size + 1 + 1 + 1, 0, none⟩ = some (.int .i64 fr)) w3 := ⟨hv3.cell, y0.cell, y3.cell⟩
    refine ⟨fun _ => hS3, ?_⟩
    refine wpAnyHIn_all (rs := [6]) (by kernel_rfl) (by simp) ?_
    intro i hi'
    obtain rfl : i = 6 := by simpa using hi'
    refine wpOpIn_of rfl (by rfl) ?_
    go_simp
    refine wpAnyHIn_done (by kernel_rfl) (NoPanic.normal ?_) _
    clear hv3 y0 y3 hS3 hS hgrow hB hz x0 x3 hv hown hK2 ne
    change Exit.then _ _ _ _ _
    gi_wp2
    refine ⟨by simp, .inl ⟨_, _, rfl, run_takeDeferred hK3, ?_⟩⟩
    refine ⟨_, results_tmp rfl _ _ _, v', rfl, ?_, hB3.out.trans (belowK_b (w := w) (Nat.le_refl _) w3 D _ _ (by omega) hK3 rfl rfl)⟩
    have how : w3.ownsRow w.heap.size 9 1 v' (pcs s sep.data.toList.length 0 oc ++ [pc]).length ((pcs s sep.data.toList.length 0 oc ++ [pc]).map Value.string) := by
      rw [List.length_append, pcs_len, List.map_append]
      exact own_less hown' (by omega)
    rw [← HALL.out]
    exact ownsRow_putObj how _ hK3 rfl
theorem text_split.calls (a0 a1 : ByteArray) (r : List ByteArray) (w : World) (hG : LaidG w) (h : text_split.f a0 a1 = some r) :
    Calls Tryd.prog 62 #[.string a0, .string a1] w fun e w' => ∃ v0_ : Value, e = .returned v0_ ∧ Kd.R Kd.string 9 w' w.heap.size (fun _ => True) v0_ r ∧ Below w.heap.size w w' := by
  unfold text_split.f at h
  split at h
  · cases h
  · rename_i hn
    cases h
    have hne : a1.data.toList ≠ [] := by
      intro e
      have h2 : a1.size = 0 := by have := congrArg List.length e; simpa using this
      exact hn (.inl h2)
    refine ((callsIn_wide (n := 6)).1 (split_in a0 a1 w hG hne (by omega) (by omega))).mono ?_
    rintro e w' ⟨v, rfl, ho, hb⟩
    exact ⟨v, rfl, Kd.R_of_own ho (fun _ _ => trivial), hb⟩
end Go.Proofs.YtdcemnmbfblmiaaDoor.Given
