-- Out of this text a program of mine (wip/slim.py) took what this claim does not use.
/- Package lex: the contracts of the functions that tell whether a text could still become a sign, and of the reader of signs. -/
import Derived.Test.YtniihjhlkpjnoaaDoorLe
import Derived.ArgAppend
section
set_option linter.unusedVariables false
set_option linter.unusedSimpArgs false
namespace Go.Proofs.YtniihjhlkpjnoaaDoor.Given
open Go.RowKit Go.Proofs.YtniihjhlkpjnoaaDoor.PT Go.Proofs.YtniihjhlkpjnoaaDoorW.PrintWords Go.Proofs.YtniihjhlkpjnoaaDoorW.PrintLast Go.Proofs.YtniihjhlkpjnoaaDoorW.PrintMore
def openB (t : List UInt8) (n : Nat) (x : List UInt8) : Bool := decide (max n t.length < x.length) && decide (t <+: x)
theorem prefix_lib (x t : List UInt8) : Lib.hasPrefix x t = decide (t <+: x) := by
 unfold Lib.hasPrefix
 by_cases h : t <+: x
 ·rw [decide_eq_true h, List.isPrefixOf_iff_prefix]
  exact h
 ·rw [decide_eq_false h, Bool.eq_false_iff]
  exact fun h2 => h (List.isPrefixOf_iff_prefix.1 h2)
set_option maxRecDepth 100000 in
set_option maxHeartbeats 1000000 in
theorem open1_calls (t : List UInt8) (n : Nat) (x : List UInt8) (ht : t.length ≤ 4611686018427387904) (hn : n ≤ 4611686018427387904) (hx : x.length ≤ 4611686018427387904) (bn bs : Nat) (w : World) (hcn : w.cell? ⟨bn, 0, none⟩ = some (.int .i64 n)) (hcs : w.cell? ⟨bs, 0, none⟩ = some (.string (ba t))) :
  Calls Tryd.prog 76 #[.string (ba x), .pointer (some ⟨bn, 0, none⟩), .pointer (some ⟨bs, 0, none⟩)] w fun e w' => e = .returned (.bool (openB t n x)) ∧ w' = w := by
 have hsz := ba_size t
 have hsx := ba_size x
 have HP := Aside0.mk (Tryd.strings_HasPrefix (ba x) (ba t) w)
 rw [ba_list, ba_list, prefix_lib] at HP
 have hmx : ((max n t.length : Nat) : Int) = max (n : Int) (t.length : Int) := by omega
 by_cases h : max n t.length < x.length
 ·have e : openB t n x = decide (t <+: x) := by unfold openB; rw [decide_eq_true h, Bool.true_and]
  have d1 : decide (max (n : Int) (t.length : Int) < (x.length : Int)) = true := decide_eq_true (by omega)
  have d2 : decide (max n t.length < x.length) = true := decide_eq_true h
  rw [e]
  generalize decide (t <+: x) = b at HP
  clear h e
  go_enter Tryd.func76, Tryd.ntmps76
  go_wp2_with (first | (go_at_call 70; (with_reducible refine HP.out.mono ?_); rintro e w1 ⟨rfl, rfl⟩))
  go_ret
  exact ⟨rfl, rfl⟩
 ·have e : openB t n x = false := by unfold openB; rw [decide_eq_false h, Bool.false_and]
  have d1 : decide (max (n : Int) (t.length : Int) < (x.length : Int)) = false := decide_eq_false (by omega)
  have d2 : decide (max n t.length < x.length) = false := decide_eq_false h
  rw [e]
  clear h e
  go_enter Tryd.func76, Tryd.ntmps76
  go_wp2
  go_ret
  exact ⟨rfl, rfl⟩
theorem StrRow.at {W : World} {A : Option Addr} {L : List (List UInt8)} {c : Nat} (h : StrRow W A L c) (k : Nat) (hk : k < L.length) : ∃ ad, A = some ad ∧ W.cell? (ad.add k) = some (.string (ba L[k])) := by
 obtain ⟨ad, e, hc⟩ := h.1.2.2 (by omega)
 obtain ⟨cs, hl, hK, hx⟩ := hc k (ba L[k]) (by simp [hk])
 have hcs : cs = [Value.string (ba L[k])] := hK
 subst hcs
 have := hx 0 (.string (ba L[k])) rfl
 rw [show k * Kd.string.sz + 0 = k from by show k * 1 + 0 = k; omega] at this
 exact ⟨ad, e, this⟩
set_option maxRecDepth 100000 in
set_option maxHeartbeats 1000000 in
theorem indexf_calls (L : List (List UInt8)) (hL : L.length ≤ 1048576) (hLx : ∀ x ∈ L, x.length ≤ 1048576) (t : List UInt8) (n : Nat) (ht : t.length ≤ 4611686018427387904) (hn : n ≤ 4611686018427387904) (bn bs : Nat) (w : World) (hcn : w.cell? ⟨bn, 0, none⟩ = some (.int .i64 n)) (hcs : w.cell? ⟨bs, 0, none⟩ = some (.string (ba t))) (A : Option Addr) (c : Nat) (h : StrRow w A L c) :
  Calls Tryd.prog 100 #[.slice A L.length c, .func (.func 76) #[] #[.pointer (some ⟨bn, 0, none⟩), .pointer (some ⟨bs, 0, none⟩)]] w fun e w' => ∃ z : Int, e = .returned (.int .i64 z) ∧ decide (0 ≤ z) = L.any (openB t n) ∧ w' = w := by
 have HO := Aside0.mk (fun x (hx : x ∈ L) => open1_calls t n x ht hn (Nat.le_trans (hLx x hx) (by decide)) bn bs w hcn hcs)
 have HR := Aside0.mk h
 clear hcn hcs h hLx
 go_enter Tryd.func100, Tryd.ntmps100
 go_wp2
 go_loopw [8] (fun i W => ∃ k : Nat, k ≤ L.length ∧ i = .int .i64 k ∧ W = w ∧ Aside0 (∀ j (hj : j < L.length), j < k → openB t n L[j] = false)) (fun i _ => L.length - (intOf i).toNat)
 case atStart => exact ⟨0, Nat.zero_le _, rfl, rfl, ⟨fun j _ hj => by omega⟩⟩
 case round =>
  obtain ⟨k, hk, rfl, rfl, hall⟩ := hrel
  by_cases hlt : k < L.length
  ·obtain ⟨ad, rfl, hx⟩ := HR.out.at k hlt
   have HOK := Aside0.mk (HO.out L[k] (List.getElem_mem _))
   have n1 : decide (k < L.length) = true := decide_eq_true hlt
   have n2 : decide ((k : Int) < (L.length : Int)) = true := decide_eq_true (by omega)
   have hb5 : -9223372036854775808 ≤ (k : Int) + 1 ∧ (k : Int) + 1 ≤ 9223372036854775807 := by omega
   cases ho : openB t n L[k] with
   | true =>
    rw [ho] at HOK
    have HF := Aside0.mk (show decide ((0 : Int) ≤ (k : Int)) = L.any (openB t n) by
     rw [decide_eq_true (by omega), eq_comm, List.any_eq_true]
     exact ⟨L[k], List.getElem_mem _, ho⟩)
    clear ho hall hb5
    generalize L[k] = x at hx HOK
    go_wp2_with (first | (go_at_call 76; (with_reducible refine HOK.out.mono ?_); rintro e w1 ⟨rfl, rfl⟩))
    go_ret
    exact ⟨_, by first | rfl | trivial, HF.out, by first | rfl | trivial⟩
   | false =>
    rw [ho] at HOK
    have hall2 := Aside0.mk (show ∀ j (hj : j < L.length), j < k + 1 → openB t n L[j] = false from fun j hj hjk => by
     rcases Nat.lt_or_ge j k with h | h
     ·exact hall.out j hj h
     ·have : j = k := by omega
      subst this
      exact ho)
    have kw : IntKind.i64.wrap ((k : Int) + 1) = (k : Int) + 1 := IntWalk.i64_in _ hb5
    clear ho hall hb5
    generalize L[k] = x at hx HOK
    go_wp2_with (first | (go_at_call 76; (with_reducible refine HOK.out.mono ?_); rintro e w1 ⟨rfl, rfl⟩))
    exact ⟨⟨k + 1, hlt, by first | rfl | simp, by first | rfl | trivial, hall2⟩, by simp [intOf]; omega⟩
  ·have n1 : decide (k < L.length) = false := decide_eq_false hlt
   have n2 : decide ((k : Int) < (L.length : Int)) = false := decide_eq_false (by omega)
   have HF := Aside0.mk (show decide ((0 : Int) ≤ -1) = L.any (openB t n) by
    rw [decide_eq_false (by omega), eq_comm, List.any_eq_false]
    intro x hx
    obtain ⟨j, hj, rfl⟩ := List.getElem_of_mem hx
    rw [hall.out j hj (by omega)]
    decide)
   clear hall
   go_wp2
   go_ret
   exact ⟨_, by first | rfl | trivial, HF.out, by first | rfl | trivial⟩
set_option maxRecDepth 100000 in
theorem containsf_calls (L : List (List UInt8)) (hL : L.length ≤ 1048576) (hLx : ∀ x ∈ L, x.length ≤ 1048576) (t : List UInt8) (n : Nat) (ht : t.length ≤ 4611686018427387904) (hn : n ≤ 4611686018427387904) (bn bs : Nat) (w : World) (hcn : w.cell? ⟨bn, 0, none⟩ = some (.int .i64 n)) (hcs : w.cell? ⟨bs, 0, none⟩ = some (.string (ba t))) (A : Option Addr) (c : Nat) (h : StrRow w A L c) :
  Calls Tryd.prog 75 #[.slice A L.length c, .func (.func 76) #[] #[.pointer (some ⟨bn, 0, none⟩), .pointer (some ⟨bs, 0, none⟩)]] w fun e w' => e = .returned (.bool (L.any (openB t n))) ∧ w' = w := by
 have HX := Aside0.mk (indexf_calls L hL hLx t n ht hn bn bs w hcn hcs A c h)
 clear hcn hcs h hLx
 go_enter Tryd.func75, Tryd.ntmps75
 go_wp2_with (first | (go_at_call 100; (with_reducible refine HX.out.mono ?_); rintro e w1 ⟨z, rfl, hz, rfl⟩; have HZ := Aside0.mk hz; clear hz))
 go_ret
 exact ⟨by rw [← HZ.out]; rfl, rfl⟩
theorem infoS : (Tryd.prog.info? 9).map (fun i => (i.zero, i.size, i.bytes)) = some (some (.string ⟨#[]⟩), 1, 16) := by kernel_rfl
theorem row_str {W : World} {base : Nat} {v : Value} {L : List (List UInt8)} {vs : List Value} (h : W.ownsRow base 9 1 v L.length vs) (hv : vs = L.map fun l => Value.string (ba l)) : ∃ A c, v = .slice A L.length c ∧ StrRow W A L c := by
 have e : vs = encs Value.string (L.map ba) := by rw [hv]; simp [encs]
 rw [e] at h
 obtain ⟨A, c, h1, h2, h3⟩ := own_reads_of_le (d := ByteArray.empty) h
 have hC := Kd.C_of_reads (h1 := fun _ => rfl) h3
 exact ⟨A, c, h1, hC, h2⟩
set_option maxRecDepth 100000 in
set_option maxHeartbeats 2000000 in
theorem open_calls (t : List UInt8) (n : Nat) (ht : t.length ≤ 4611686018427387904) (hn : n ≤ 4611686018427387904) (b g : Nat) (w : World) (hb : w.cell? ⟨b, 0, none⟩ = some (.slice (some ⟨g, 0, none⟩) 35 35)) (hg : w.heap[g]? = some (rowV signsL)) :
  Calls Tryd.prog 74 #[.string (ba t), .int .i64 n, .pointer (some ⟨b, 0, none⟩)] w fun e w' => e = .returned (.bool (openL t n)) ∧ Below w.heap.size w w' := by
 have hbl := World.block_lt_of_cell? w _ hb
 simp only [] at hbl
 have hgl : g < w.heap.size := (Array.getElem?_eq_some_iff.1 hg).1
 have hb0 : ¬ b = w.heap.size := by omega
 have hb1 : ¬ b = w.heap.size + 1 := by omega
 have hb2 : ¬ b = w.heap.size + 1 + 1 := by omega
 obtain ⟨i9, hi9, hz9⟩ := Option.map_eq_some_iff.1 infoS
 simp only [Prod.mk.injEq] at hz9
 obtain ⟨z1, z2, z3⟩ := hz9
 have HB : Aside0 (∀ W, Below (w.heap.size + 2) ((w.alloc (.cells #[.string (ba t)] 9)).alloc (.cells #[.int .i64 n] 3)) W → Below w.heap.size w W ∧ W.cell? ⟨w.heap.size, 0, none⟩ = some (.string (ba t)) ∧ W.cell? ⟨w.heap.size + 1, 0, none⟩ = some (.int .i64 n)) := ⟨fun W hW => by
  have hs : ((w.alloc (.cells #[.string (ba t)] 9)).alloc (.cells #[.int .i64 n] 3)).heap.size = w.heap.size + 2 := by simp
  refine ⟨(((Below.refl _ _).alloc (Nat.le_refl _) _).alloc (by simp) _).trans (hW.mono (by omega)), (bcell hW (by omega)).trans ?_, (bcell hW (by omega)).trans ?_⟩
  all_goals simp [go_sem]⟩
 have HG := Aside0.mk hg
 have HN := Aside0.mk hn
 have HTT := Aside0.mk ht
 have hgg : ∀ j u, (signsL.map fun l => Value.string (ba l))[j]? = some u → w.cell? ⟨g, 0 + j, none⟩ = some u := fun j u hj => by
  rw [Nat.zero_add]
  unfold rowV at hg
  have hj2 : (signsL.map fun l => Value.string (ba l)).toArray[j]? = some u := by simpa using hj
  simp [World.cell?, hg, hj2]
 have HGG := Aside0.mk hgg
 clear hg hgg
 go_enter Tryd.func74, Tryd.ntmps74
 go_wp2_with (first
  | (((with_reducible refine gate_builtin (b := .append) (xs := #[.tmp 6, .tmp 7]) rfl ?_); at_builtin; refine wpList_append_arg _ rfl (.tmp 6) (.tmp 7) 119 rfl 9 i9 (.string ⟨#[]⟩) 1 16 Tryd.underlying119 hi9 z1 z2 z3 rfl (by decide) g 0 35 35 (signsL.map fun l => Value.string (ba l)) rfl (by rw [List.length_map]; rfl) ?olds ⟨w.heap.size + 1 + 1, 0, none⟩ 1 1 [.string ⟨#[40, 42]⟩] rfl rfl ?news (by simp [Value.oneCell']) (fun h => by omega) (by decide) (by decide) (fun h => by omega) ?grow; (case olds => exact fun j u hj => (bcell ((((Below.refl w.heap.size w).alloc (Nat.le_refl _) _).alloc (by simp) _).alloc (by simp; omega) _) hgl).trans (HGG.out j u hj)); (case news => exact fun j u hj => by rcases j with _ | j <;> simp at hj <;> (subst hj; simp [Addr.add, go_sem])); intro _ v1 w1 ho hgr; have HB1 := Aside0.mk (HB.out w1 (((Below.refl _ _).alloc (by simp) _).grown hgr (by simp) (fun k h => by cases h))); obtain ⟨A1, k1, hv1, hrow⟩ := row_str (L := signsL ++ [[40, 42]]) ho (by rw [List.map_append]; rfl); replace hv1 : v1 = .slice A1 36 k1 := hv1; subst hv1; have HCF : Aside0 (Calls Tryd.prog 75 #[.slice A1 36 k1, .func (.func 76) #[] #[.pointer (some ⟨w.heap.size + 1, 0, none⟩), .pointer (some ⟨w.heap.size, 0, none⟩)]] w1 fun e w' => e = .returned (.bool (openL t n)) ∧ w' = w1) := ⟨containsf_calls (signsL ++ [[40, 42]]) (by decide) (by decide) t n HTT.out HN.out _ _ w1 HB1.out.2.2 HB1.out.2.1 A1 k1 hrow⟩; clear ho hgr hrow))
  | (go_at_call 75; (with_reducible refine HCF.out.mono ?_); rintro e w2 ⟨rfl, rfl⟩))
 go_ret
 exact ⟨rfl, HB1.out.1⟩
end Go.Proofs.YtniihjhlkpjnoaaDoor.Given
end
section
/- Package lex: the contract of the reader of signs. -/
set_option linter.unusedVariables false
set_option linter.unusedSimpArgs false
namespace Go.Proofs.YtniihjhlkpjnoaaDoor.Given
open Go.RowKit Go.Proofs.YtniihjhlkpjnoaaDoor.PT Go.Proofs.YtniihjhlkpjnoaaDoorW.PrintWords Go.Proofs.YtniihjhlkpjnoaaDoorW.PrintLast Go.Proofs.YtniihjhlkpjnoaaDoorW.PrintMore
structure SignBox (W : World) (b o g : Nat) : Prop where
 cb : W.cell? ⟨b, 0, none⟩ = some (.slice (some ⟨g, 0, none⟩) 35 35)
 co : W.cell? ⟨o, 0, none⟩ = some (.func (.func 74) #[] #[.pointer (some ⟨b, 0, none⟩)])
 hg : W.heap[g]? = some (rowV signsL)
theorem SignBox.keep {W W' : World} {b o g : Nat} (h : SignBox W b o g) (hb : Below W.heap.size W W') : SignBox W' b o g :=
 ⟨(hb.cell (p := ⟨b, 0, none⟩) (World.block_lt_of_cell? W _ h.cb)).trans h.cb, (hb.cell (p := ⟨o, 0, none⟩) (World.block_lt_of_cell? W _ h.co)).trans h.co, (hb.block g (Array.getElem?_eq_some_iff.1 h.hg).1).trans h.hg⟩
theorem row_there {W : World} {g : Nat} {L : List (List UInt8)} (hg : W.heap[g]? = some (rowV L)) (hl : L.length ≤ 1048576) : StrRow W (some ⟨g, 0, none⟩) L L.length := by
 refine ⟨⟨List.length_map .., by omega, fun _ => ⟨_, rfl, fun j y hj => ?_⟩⟩, Nat.le_refl _⟩
 refine ⟨[.string y], rfl, rfl, fun i u hu => ?_⟩
 rcases i with _ | i
 ·obtain rfl : Value.string y = u := by simpa using hu
  have ea : (Addr.mk g 0 none).add (j * Kd.string.sz + 0) = ⟨g, j, none⟩ := by
   show (Addr.mk g 0 none).add (j * 1 + 0) = _
   rw [Nat.mul_one, Nat.add_zero]
   unfold Addr.add
   simp
   try (intro h; omega)
  rw [ea]
  have hj2 : (L.map fun l => Value.string (ba l)).toArray[j]? = some (.string y) := by
   rw [List.getElem?_toArray, List.getElem?_map]
   rw [List.getElem?_map] at hj
   cases hx : L[j]? with
   | none => rw [hx] at hj; cases hj
   | some z => rw [hx] at hj; cases hj; rfl
  unfold rowV at hg
  simp [World.cell?, hg, hj2]
 ·simp at hu
set_option maxRecDepth 100000 in
set_option maxHeartbeats 4000000 in
theorem sign_reads (t : List UInt8) (h0 : t ≠ []) (ht : t.length ≤ 1099511627776) (w : World) (b o g : Nat) (hs : SignBox w b o g) :
  Calls Tryd.prog 90 #[.string (ba t), .pointer (some ⟨b, 0, none⟩), .pointer (some ⟨o, 0, none⟩)] w fun e w' => e = .returned (itemV (signI t) 0 (signI t).len) ∧ Below w.heap.size w w' := by
 have hsz := ba_size t
 have hu := Tryd.underlying70
 have hut := Tryd.underlying42
 have hl := List.length_pos_iff.2 h0
 have HI := Aside0.mk (Is7.start w)
 have HS := Aside0.mk hs
 have HOP : Aside0 (∀ W, Below w.heap.size w W → ∀ n : Nat, n ≤ 4611686018427387904 → Calls Tryd.prog 74 #[.string (ba t), .int .i64 n, .pointer (some ⟨b, 0, none⟩)] W fun e w' => e = .returned (.bool (openL t n)) ∧ Below W.heap.size W w') :=
  ⟨fun W hW n hn => open_calls t n (by omega) hn b g W (hs.keep hW).cb (hs.keep hW).hg⟩
 have HQ : Aside0 (∀ W, Below w.heap.size w W → ∀ (x : List UInt8) (k : Nat), Calls Tryd.prog 81 #[.slice (some ⟨g, 0, none⟩) 35 35, .string (ba x)] (W.drewN k) fun e w'' => e = .returned (.bool (decide (x ∈ signsL))) ∧ ∃ m, w'' = W.drewN m) :=
  ⟨fun W hW x k => contains_quiet W (some ⟨g, 0, none⟩) signsL 35 (row_there (hs.keep hW).hg (by decide)) x (by decide) k⟩
 have hmn : min (3 : Int) (t.length : Int) = ((min 3 t.length : Nat) : Int) := by omega
 have hM3 : min 3 t.length ≤ 3 := Nat.min_le_left _ _
 have hMl : min 3 t.length ≤ t.length := Nat.min_le_right _ _
 have e0 : signI t = signN t (signL t (min 3 t.length)) := rfl
 rw [e0]
 generalize hM : min 3 t.length = M at hmn hM3 hMl ⊢
 have HM := Aside0.mk hM
 clear hs e0 hM
 go_enter Tryd.func90, Tryd.ntmps90
 go_wp2
 go_loopw [5] (fun i W => ∃ k : Nat, k ≤ M ∧ i = .int .i64 k ∧ Aside0 (Is7 w W) ∧ Aside0 (∀ j, k < j → j ≤ M → t.take j ∉ signsL)) (fun i _ => (intOf i).toNat)
 case atStart => exact ⟨M, Nat.le_refl _, by first | rfl | simp [hmn] | (rw [← hmn]; rfl), HI, ⟨fun j h1 h2 => by omega⟩⟩
 case round =>
  obtain ⟨k, hk, rfl, hi, hno⟩ := hrel
  have hbl := hi.out.below
  have hsb := HS.out.keep hbl
  obtain ⟨hcb, hco, _⟩ := hsb
  by_cases hk0 : k = 0
  ·subst hk0
   have HE := Aside0.mk (show signN t (signL t M) = badI 7 (!openL t 0) by
    rw [signL_unique t M 0 (Nat.zero_le _) (.inl rfl) (fun j h1 h2 => hno.out j h1 h2)]
    unfold signN
    rw [if_pos rfl])
   have HO0 : Aside0 (∀ W, Below w.heap.size w W → Calls Tryd.prog 74 #[.string (ba t), .int .i64 0, .pointer (some ⟨b, 0, none⟩)] W fun e w' => e = .returned (.bool (openL t 0)) ∧ Below W.heap.size W w') := ⟨fun W hW => HOP.out W hW 0 (by decide)⟩
   generalize openL t 0 = ob at HE HO0
   clear hno
   go_upto_region 2 with (fail)
   go_quiet (fail)
   go_wp2_with (first
    | (go_at_call 74; (with_reducible refine (HO0.out _ (pw_below_drewN hi.out.below _)).mono ?_); rintro e w1 ⟨rfl, hb1⟩; have HI1 := Aside0.mk ((hi.out.keep (Drawn0.below ⟨⟨_, rfl⟩⟩)).keep hb1); clear hb1)
    | (go_at_call 83; (with_reducible refine (wrong_calls _ _ _).mono ?_); rintro e w2 ⟨rfl, hb2⟩; have HIz := Aside0.mk (HI1.out.keep hb2); obtain ⟨_, _, c0, c1, c2, c3, c4, c5, c6, f0, f1, f2, f3, f4, f5, f6⟩ := HIz.out; clear hb2))
   refine bodyPost_ret (HIz.out.results rfl _ rfl _ _ _ _ _ _ _) rfl ⟨by rw [HE.out]; rfl, HIz.out.set _ _ _ _ _ _ _⟩
  ·have hk1 : 1 ≤ k := by omega
   have hkl : k ≤ t.length := by omega
   have n1 : decide (0 < k) = true := decide_eq_true hk1
   have n2 : decide ((0 : Int) < (k : Int)) = true := decide_eq_true (by omega)
   have n3 : ((k : Int) == 0) = false := by rw [beq_eq_false_iff_ne]; omega
   have n4 : (k == 0) = false := beq_eq_false_iff_ne.2 hk0
   have n5 : decide (k = 0) = false := decide_eq_false hk0
   have hsl := fun W => str_high t k hkl W
   have HQ1 := Aside0.mk (HQ.out wr hbl (t.take k))
   by_cases hm : t.take k ∈ signsL
   ·rw [decide_eq_true hm] at HQ1
    have HE := Aside0.mk (show signN t (signL t M) = tokI 7 t k (!openL t k) by
     rw [signL_unique t M k hk (.inr hm) (fun j h1 h2 => hno.out j h1 h2)]
     unfold signN
     rw [if_neg hk0])
    have HO0 : Aside0 (∀ W, Below w.heap.size w W → Calls Tryd.prog 74 #[.string (ba t), .int .i64 k, .pointer (some ⟨b, 0, none⟩)] W fun e w' => e = .returned (.bool (openL t k)) ∧ Below W.heap.size W w') := ⟨fun W hW => HOP.out W hW k (by omega)⟩
    generalize openL t k = ob at HE HO0
    have HT := Aside0.mk (token_calls 7 t k hkl (!ob))
    clear hno hm hk0 hk1
    go_upto_region 2 with (fail)
    go_quiet ((go_at_call 81; exact HQ1.out _))
    go_wp2_with (first
     | (go_at_call 74; (with_reducible refine (HO0.out _ (pw_below_drewN hi.out.below _)).mono ?_); rintro e w1 ⟨rfl, hb1⟩; have HI1 := Aside0.mk ((hi.out.keep (Drawn0.below ⟨⟨_, rfl⟩⟩)).keep hb1); clear hb1)
     | (go_at_call 82; (with_reducible refine (HT.out _).mono ?_); rintro e w2 ⟨rfl, hb2⟩; have HIz := Aside0.mk (HI1.out.keep hb2); obtain ⟨_, _, c0, c1, c2, c3, c4, c5, c6, f0, f1, f2, f3, f4, f5, f6⟩ := HIz.out; clear hb2))
    refine bodyPost_ret (HIz.out.results rfl _ rfl _ _ _ _ _ _ _) rfl ⟨by rw [HE.out]; rfl, HIz.out.set _ _ _ _ _ _ _⟩
   ·rw [decide_eq_false hm] at HQ1
    have hno2 := Aside0.mk (show ∀ j, k - 1 < j → j ≤ M → t.take j ∉ signsL from fun j h1 h2 => by
     rcases Nat.lt_or_ge k j with h | h
     ·exact hno.out j h h2
     ·have : j = k := by omega
      subst this
      exact hm)
    have kw : IntKind.i64.wrap ((k : Int) - 1) = ((k - 1 : Nat) : Int) := kwI (by omega) (by omega)
    clear hno hm
    go_upto_region 2 with (fail)
    go_quiet ((go_at_call 81; exact HQ1.out _))
    go_wp2_with (fail)
    exact ⟨⟨k - 1, by omega, by first | rfl | simp, ⟨hi.out.keep (Drawn0.below ⟨⟨_, rfl⟩⟩)⟩, hno2⟩, by simp [intOf]; omega⟩
end Go.Proofs.YtniihjhlkpjnoaaDoor.Given
end
