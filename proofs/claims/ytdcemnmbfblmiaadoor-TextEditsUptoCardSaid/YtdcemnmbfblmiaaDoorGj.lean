/- The contract of text.Join: the texts joined, or an error; all older memory is left as it was. -/
import Derived.Test.YtdcemnmbfblmiaaDoorGa
import Derived.Shelf.Strings.Builder1
set_option linter.unusedVariables false
set_option linter.unusedSimpArgs false
namespace Go.Proofs.YtdcemnmbfblmiaaDoor.Given
open Go.RowKit Go.Proofs.YtdcemnmbfblmiaaDoorW.PrintWords Go.Proofs.YtdcemnmbfblmiaaDoorW.PrintLast Go.Proofs.YtdcemnmbfblmiaaDoorW.PrintMore

theorem joinL_take_succ (l : List ByteArray) (sep : ByteArray) (k : Nat) (hk : k < l.length) :
    joinL (l.take (k + 1)) sep = (joinL (l.take k) sep ++ (if k = 0 then [] else sep.data.toList)) ++ (rdOf ByteArray.empty l (k : Int)).data.toList := by
  have hr : rdOf ByteArray.empty l (k : Int) = l[k] := by unfold rdOf; simp [hk]
  rw [hr]
  cases l with
  | nil => simp at hk
  | cons x r =>
    cases k with
    | zero => simp [joinL, Lib.join_one, Lib.join_nil]
    | succ k =>
      have hk' : k < r.length := by simpa using hk
      have h := Lib.joinTail_take_succ sep.data.toList (r.map (·.data.toList)) k (r[k].data.toList) (by simp [hk'])
      simp only [joinL, List.take_succ_cons, List.map_cons, Lib.join_cons, List.map_take]
      rw [h]
      simp [List.append_assoc]
theorem joinL_le (l : List ByteArray) (sep : ByteArray) (k : Nat) (hk : k ≤ l.length) : (joinL (l.take k) sep).length ≤ (joinL l sep).length := by
  obtain ⟨d, hd⟩ : ∃ d, l.length = k + d := ⟨l.length - k, by omega⟩
  have h : ∀ m, k + m ≤ l.length → (joinL (l.take k) sep).length ≤ (joinL (l.take (k + m)) sep).length := by
    intro m
    induction m with
    | zero => intro _; exact Nat.le_refl _
    | succ m ih =>
      intro hm
      have h1 := ih (by omega)
      have h2 := joinL_take_succ l sep (k + m) (by omega)
      rw [show k + (m + 1) = k + m + 1 by omega, h2, List.length_append, List.length_append]
      omega
  have h1 := h d (by omega)
  rw [← hd, List.take_length] at h1
  exact h1
theorem C_one (w : World) (x : ByteArray) : Kd.C Kd.string (w.alloc (.cells #[.string x] 9)) (some ⟨w.heap.size, 0, none⟩) 1 [x] := by
  refine ⟨rfl, by decide, fun _ => ⟨_, rfl, fun j y hj => ⟨[.string y], rfl, rfl, fun i v hv => ?_⟩⟩⟩
  have hj0 : j = 0 := by
    rcases j with _ | j
    · rfl
    · simp at hj
  subst hj0
  have hi0 : i = 0 := by
    rcases i with _ | i
    · rfl
    · simp at hv
  subst hi0
  have hy : x = y := by simpa using hj
  have hv' : Value.string y = v := by simpa using hv
  subst hy; subst hv'
  simp [Addr.add, go_sem]
def JoinPost (l : List ByteArray) (sep : ByteArray) (w : World) (e : Ending) (w' : World) : Prop :=
  e = .returned (.tuple #[.string (if (joinL l sep).length ≤ 4000 then ba (joinL l sep) else ⟨#[]⟩), .int .i64 (if (joinL l sep).length ≤ 4000 then 0 else 3)]) ∧ Below w.heap.size w w'
theorem Tryd_WriteString (B b : Nat) (bs : List Value) (s : ByteArray) (w : World) (h : Lib.IsBuilder 68 5 B b bs w) (hlen : bs.length + s.size ≤ 140737488355328) (hBw : B ≤ w.heap.size) :
    Calls Tryd.prog 63 #[.pointer (some ⟨b, 0, none⟩), .string s] w fun e w' => e = .returned (.tuple #[.int .i64 s.size, .nilIface]) ∧ (Lib.IsBuilder 68 5 B b (bs ++ Lib.strCells s) w' ∧ Below B w w') :=
  (Any.Builder_WriteString ({ Tryd.lays156 with } : Lays.n166 Tryd.prog Tryd.lays156_ren) Tryd.Builder_Extra_156 B b bs s w h hlen hBw).mono fun _ _ ⟨h1, h2, h3⟩ => ⟨h1, .inr h2, h3⟩
theorem valid_one (sep : ByteArray) (r : Bool) (hr : decide (sep.size ≤ 4000) = r) (W : World) :
    Calls Tryd.prog 55 #[.slice (some ⟨W.heap.size, 0, none⟩) 1 1] (W.alloc (.cells #[.string sep] 9)) fun e w' => e = .returned (.bool r) ∧ Below (W.alloc (.cells #[.string sep] 9)).heap.size (W.alloc (.cells #[.string sep] 9)) w' :=
  text_valid.calls (some ⟨W.heap.size, 0, none⟩) 1 [sep] r (W.alloc (.cells #[.string sep] 9)) (C_one W sep) (Nat.le_refl _) (by unfold text_valid.f; simp [hr])
set_option maxRecDepth 100000 in
set_option maxHeartbeats 1000000 in
theorem join_arg (A0 : Option Addr) (c0 : Nat) (l0 : List ByteArray) (sep : ByteArray) (w : World) (hr0 : Kd.C Kd.string w A0 l0.length l0) (hc0 : l0.length ≤ c0) (h : (l0.all fun s => decide (s.size ≤ 4000)) = false ∨ ¬ sep.size ≤ 4000) :
    Calls Tryd.prog 34 #[.slice A0 l0.length c0, .string sep] w fun e w' => e = .returned (.tuple #[.string ⟨#[]⟩, .int .i64 1]) ∧ Below w.heap.size w w' := by
  have HV := Aside0.mk (text_valid.calls A0 c0 l0 _ w hr0 hc0 rfl)
  cases hb : (l0.all fun s => decide (s.size ≤ 4000)) with
  | false =>
    rw [hb] at HV
    clear hr0 h hb
    go_enter Tryd.func34, Tryd.ntmps34
    go_wp2_with (first | (go_at_call 55; refine HV.out.mono ?_; rintro e w1 ⟨rfl, hb1⟩))
    go_ret2
    exact ⟨rfl, hb1⟩
  | true =>
    rw [hb] at HV
    have hs : ¬ sep.size ≤ 4000 := by
      rcases h with h | h
      · rw [hb] at h; cases h
      · exact h
    have HV2 := Aside0.mk (valid_one sep false (by simp [hs]))
    clear hr0 h hb hs
    go_enter Tryd.func34, Tryd.ntmps34
    go_wp2_with (first | (go_at_call 55; (with_reducible refine HV.out.mono ?_); rintro e w1 ⟨rfl, hb1⟩) | (go_at_call 55; (with_reducible refine (HV2.out _).mono ?_); rintro e w2 ⟨rfl, hb2⟩))
    go_ret2
    exact ⟨rfl, (hb1.alloc hb1.size _).trans (hb2.mono (by have := hb1.size; simp; omega))⟩
theorem byteCells_str (s : ByteArray) : Lib.strCells s = Lib.byteCells s.data.toList := rfl
theorem byteCells_append (l m : List UInt8) : Lib.byteCells (l ++ m) = Lib.byteCells l ++ Lib.byteCells m := by simp [Lib.byteCells]
set_option maxRecDepth 100000 in
set_option maxHeartbeats 2000000 in
theorem join_ok (A0 : Option Addr) (c0 : Nat) (l0 : List ByteArray) (sep : ByteArray) (w : World) (hr0 : Kd.C Kd.string w A0 l0.length l0) (hc0 : l0.length ≤ c0) (h : (l0.all fun s => decide (s.size ≤ 4000)) = true) (hs : sep.size ≤ 4000) :
    Calls Tryd.prog 34 #[.slice A0 l0.length c0, .string sep] w (JoinPost l0 sep w) := by
  have HV := Aside0.mk (text_valid.calls A0 c0 l0 _ w hr0 hc0 rfl)
  have HV2 := Aside0.mk (valid_one sep true (by simp [hs]))
  have hl : l0.length ≤ 9223372036854775807 := hr0.2.1
  have hall : ∀ k : Nat, k < l0.length → (rdOf ByteArray.empty l0 (k : Int)).size ≤ 4000 := by
    intro k hk
    rw [List.all_eq_true] at h
    have := h l0[k] (List.getElem_mem hk)
    unfold rdOf
    simpa [hk] using this
  have HA := Aside0.mk hall
  rw [h] at HV
  have HR := Aside0.mk hr0
  clear hr0 h hall
  go_enter Tryd.func34, Tryd.ntmps34
  go_wp2_with (first | (go_at_call 55; (with_reducible refine HV.out.mono ?_); rintro e w1 ⟨rfl, hb1⟩) | (go_at_call 55; (with_reducible refine (HV2.out _).mono ?_); rintro e w2 ⟨rfl, hb2⟩))
  have hBW : Below w.heap.size w (w2.alloc (.cells #[.pointer none, .slice none 0 0] 68)) :=
    ((hb1.alloc hb1.size _).trans (hb2.mono (by have := hb1.size; simp; omega))).alloc (by have := hb1.size; have := hb2.size; simp at this; omega) _
  have hsz2 : w.heap.size ≤ w2.heap.size := by have := hb1.size; have := hb2.size; simp at this; omega
  have hB0 : Lib.IsBuilder 68 5 w.heap.size w2.heap.size (Lib.byteCells (joinL (l0.take 0) sep)) (w2.alloc (.cells #[.pointer none, .slice none 0 0] 68)) :=
    .inl ⟨hsz2, .slice none 0 0, by simp [World.alloc, -World.alloc_eq], World.ownsRow_nil _ _ _ _, by simp [Value.ownBlock]⟩
  have HBW := Aside0.mk hBW
  have HB0 := Aside0.mk hB0
  clear hBW hB0 hb1 hb2 HV HV2
  go_loopw [20] (fun i wr => ∃ k : Nat, k ≤ l0.length ∧ i = .int .i64 k ∧ Aside0 (Below w.heap.size w wr) ∧ Aside0 (Lib.IsBuilder 68 5 w.heap.size w2.heap.size (Lib.byteCells (joinL (l0.take k) sep)) wr) ∧ (joinL (l0.take k) sep).length ≤ 4000)
    (fun i _ => l0.length - (intOf i).toNat)
  case atStart => exact ⟨0, Nat.zero_le _, rfl, HBW, HB0, by simp [joinL, Lib.join_nil]⟩
  case round =>
    obtain ⟨k, hk, rfl, hbel, hbd, hjl⟩ := hrel
    have hsize := hbel.out.size
    by_cases hlt : k < l0.length
    · obtain ⟨ad, e1, hx⟩ := Kd.at_string (Kd.C_below HR.out hbel.out) (k : Int) (by omega) (by omega)
      cases e1
      rw [Int.toNat_natCast] at hx
      have HJ := Aside0.mk (joinL_take_succ l0 sep k hlt)
      have hxs := HA.out k hlt
      generalize rdOf ByteArray.empty l0 (k : Int) = x at hx HJ hxs
      by_cases hk0 : k = 0
      · have hz : decide (0 < k) = false := decide_eq_false (by omega)
        have hcells : Lib.byteCells (joinL (l0.take k) sep) ++ Lib.strCells x = Lib.byteCells (joinL (l0.take (k + 1)) sep) := by rw [HJ.out, if_pos (by omega), List.append_nil, byteCells_append]; rfl
        have HW2 := Aside0.mk (fun W (hB : Lib.IsBuilder 68 5 w.heap.size w2.heap.size (Lib.byteCells (joinL (l0.take k) sep)) W) hW => Tryd_WriteString w.heap.size w2.heap.size _ x W hB (by simp only [List.length_append, Lib.byteCells_length, Lib.strCells_length]; omega) hW)
        rw [hcells] at HW2
        have HL := Aside0.mk (fun W hB => Tryd.Builder_Len w.heap.size w2.heap.size (Lib.byteCells (joinL (l0.take (k + 1)) sep)) W hB)
        rw [Lib.byteCells_length] at HL
        have hle2 := Aside0.mk (joinL_le l0 sep (k + 1) (by omega))
        have hln := Aside0.mk hlt
        clear hcells hk0
        by_cases hle : (joinL (l0.take (k + 1)) sep).length ≤ 4000
        · have HLe := Aside0.mk hle
          generalize hgl : (joinL (l0.take (k + 1)) sep).length = q at hle HL
          clear hgl
          go_wp2_with (first | (go_at_call 63; (with_reducible refine (HW2.out wr hbd.out (by omega)).mono ?_); rintro e w4 ⟨rfl, hB4, hb4⟩) | (go_at_call 64; refine (HL.out w4 hB4).mono ?_; rintro e w5 ⟨rfl, rfl⟩))
          exact ⟨⟨k + 1, by omega, by first | rfl | simp, ⟨(hbel.out.trans hb4)⟩, ⟨hB4⟩, HLe.out⟩, by simp [intOf]; omega⟩
        · have HLe := Aside0.mk (show ¬ (joinL l0 sep).length ≤ 4000 by have := hle2.out; omega)
          generalize hgl : (joinL (l0.take (k + 1)) sep).length = q at hle HL
          clear hgl
          go_wp2_with (first | (go_at_call 63; (with_reducible refine (HW2.out wr hbd.out (by omega)).mono ?_); rintro e w4 ⟨rfl, hB4, hb4⟩) | (go_at_call 64; refine (HL.out w4 hB4).mono ?_; rintro e w5 ⟨rfl, rfl⟩))
          go_ret2
          exact ⟨by rw [if_neg HLe.out, if_neg HLe.out]; rfl, (hbel.out.trans hb4)⟩
      · have hz : decide (0 < k) = true := decide_eq_true (by omega)
        have HW1 := Aside0.mk (fun W (hB : Lib.IsBuilder 68 5 w.heap.size w2.heap.size (Lib.byteCells (joinL (l0.take k) sep)) W) hW => Tryd_WriteString w.heap.size w2.heap.size _ sep W hB (by rw [Lib.byteCells_length]; omega) hW)
        have hcells : (Lib.byteCells (joinL (l0.take k) sep) ++ Lib.strCells sep) ++ Lib.strCells x = Lib.byteCells (joinL (l0.take (k + 1)) sep) := by rw [HJ.out, if_neg (by omega), byteCells_append, byteCells_append]; rfl
        have HW2 := Aside0.mk (fun W (hB : Lib.IsBuilder 68 5 w.heap.size w2.heap.size (Lib.byteCells (joinL (l0.take k) sep) ++ Lib.strCells sep) W) hW => Tryd_WriteString w.heap.size w2.heap.size _ x W hB (by simp only [List.length_append, Lib.byteCells_length, Lib.strCells_length]; omega) hW)
        rw [hcells] at HW2
        have HL := Aside0.mk (fun W hB => Tryd.Builder_Len w.heap.size w2.heap.size (Lib.byteCells (joinL (l0.take (k + 1)) sep)) W hB)
        rw [Lib.byteCells_length] at HL
        have hle2 := Aside0.mk (joinL_le l0 sep (k + 1) (by omega))
        have hln := Aside0.mk hlt
        clear hcells hk0
        by_cases hle : (joinL (l0.take (k + 1)) sep).length ≤ 4000
        · have HLe := Aside0.mk hle
          generalize hgl : (joinL (l0.take (k + 1)) sep).length = q at hle HL
          clear hgl
          go_wp2_with (first | (go_at_call 63; (with_reducible refine (HW1.out wr hbd.out (by omega)).mono ?_); rintro e w3 ⟨rfl, hB3, hb3⟩) | (go_at_call 63; (with_reducible refine (HW2.out w3 hB3 (by have := hb3.size; omega)).mono ?_); rintro e w4 ⟨rfl, hB4, hb4⟩) | (go_at_call 64; refine (HL.out w4 hB4).mono ?_; rintro e w5 ⟨rfl, rfl⟩))
          exact ⟨⟨k + 1, by omega, by first | rfl | simp, ⟨((hbel.out.trans hb3).trans hb4)⟩, ⟨hB4⟩, HLe.out⟩, by simp [intOf]; omega⟩
        · have HLe := Aside0.mk (show ¬ (joinL l0 sep).length ≤ 4000 by have := hle2.out; omega)
          generalize hgl : (joinL (l0.take (k + 1)) sep).length = q at hle HL
          clear hgl
          go_wp2_with (first | (go_at_call 63; (with_reducible refine (HW1.out wr hbd.out (by omega)).mono ?_); rintro e w3 ⟨rfl, hB3, hb3⟩) | (go_at_call 63; (with_reducible refine (HW2.out w3 hB3 (by have := hb3.size; omega)).mono ?_); rintro e w4 ⟨rfl, hB4, hb4⟩) | (go_at_call 64; refine (HL.out w4 hB4).mono ?_; rintro e w5 ⟨rfl, rfl⟩))
          go_ret2
          exact ⟨by rw [if_neg HLe.out, if_neg HLe.out]; rfl, ((hbel.out.trans hb3).trans hb4)⟩
    · have hke : k = l0.length := by omega
      have HS := Aside0.mk (Tryd.Builder_String_any w.heap.size w2.heap.size (joinL (l0.take k) sep) wr hbd.out hsize)
      rw [hke, List.take_length] at HS hjl
      have hjl2 := Aside0.mk hjl
      clear hjl hke
      go_wp2_with (first | (go_at_call 65; refine HS.out.mono ?_; rintro e w3 ⟨rfl, hb3⟩))
      go_ret2
      exact ⟨by rw [if_pos hjl2.out, if_pos hjl2.out]; rfl, hbel.out.trans hb3⟩
theorem text_Join.calls (A0 : Option Addr) (c0 : Nat) (l0 : List ByteArray) (a1 : ByteArray) (r1 : ByteArray) (r2 : Int) (w : World) (hr0 : Kd.C Kd.string w A0 l0.length l0) (hc0 : l0.length ≤ c0) (h : text_Join.f l0 a1 = some (r1, r2)) :
    Calls Tryd.prog 34 #[.slice A0 l0.length c0, .string a1] w fun e w' => e = .returned (.tuple #[.string r1, .int .i64 r2]) ∧ Below w.heap.size w w' := by
  unfold text_Join.f at h
  by_cases h1 : (l0.all fun s => decide (s.size ≤ 4000)) = true ∧ a1.size ≤ 4000
  · rw [if_pos h1] at h
    refine (join_ok A0 c0 l0 a1 w hr0 hc0 h1.1 h1.2).mono fun e w' hp => ?_
    obtain ⟨rfl, hb⟩ := hp
    by_cases h2 : (joinL l0 a1).length ≤ 4000
    · rw [if_pos h2] at h
      cases h
      rw [if_pos h2, if_pos h2]
      exact ⟨rfl, hb⟩
    · rw [if_neg h2] at h
      cases h
      rw [if_neg h2, if_neg h2]
      exact ⟨rfl, hb⟩
  · rw [if_neg h1] at h
    cases h
    refine join_arg A0 c0 l0 a1 w hr0 hc0 ?_
    by_cases h2 : (l0.all fun s => decide (s.size ≤ 4000)) = true
    · exact .inr fun h3 => h1 ⟨h2, h3⟩
    · exact .inl (by simpa using h2)
end Go.Proofs.YtdcemnmbfblmiaaDoor.Given
