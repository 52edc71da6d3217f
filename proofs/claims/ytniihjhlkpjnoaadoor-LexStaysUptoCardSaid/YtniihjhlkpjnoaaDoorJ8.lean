/- Package lex: the contracts of classOf and of begins; the readers, looked up by their class. -/
import Derived.Test.YtniihjhlkpjnoaaDoorJ7
import Derived.Test.YtniihjhlkpjnoaaDoorSeq
import Derived.MapKept
section
set_option linter.unusedVariables false
set_option linter.unusedSimpArgs false
namespace Go.Proofs.YtniihjhlkpjnoaaDoor.Given
open Go.RowKit Go.Proofs.YtniihjhlkpjnoaaDoor.PT Go.Proofs.YtniihjhlkpjnoaaDoorW.PrintWords Go.Proofs.YtniihjhlkpjnoaaDoorW.PrintLast Go.Proofs.YtniihjhlkpjnoaaDoorW.PrintMore
theorem ba_bt (c : UInt8) (r : List UInt8) : bt (ba (c :: r)) 0 = (c.toNat : Int) := by
 have h := bt_at (ba (c :: r)) 0 (by rw [ba_size]; simp)
 rw [← h]
 rfl
theorem note_f (c : UInt8) (r : List UInt8) (hc : c.toNat = 40) : strings_HasPrefix.f (ba (c :: r)) (⟨#[40, 42]⟩ : ByteArray) = some (decide (c.toNat = 40 ∧ r.head? = some 42)) := by
 obtain rfl : c = 40 := UInt8.toNat_inj.1 hc
 unfold strings_HasPrefix.f stringslite_HasPrefix.f
 have h2 : ((⟨#[40, 42]⟩ : ByteArray).size : Int) = 2 := rfl
 rw [h2, ba_size]
 cases r with
 | nil => rfl
 | cons d r =>
  rw [if_pos (by simp only [List.length_cons]; omega), if_pos (by decide), if_pos (by simp only [List.length_cons]; omega), Option.bind_some]
  have e : ((ba (40 :: d :: r)).extract 0 ((2 : Int) : Int).toNat).toList = [40, d] := by
   show ((ba (40 :: d :: r)).extract 0 2).toList = _
   rw [ba_extract, ba_toList]
   rfl
  have e2 : (⟨#[40, 42]⟩ : ByteArray).toList = [40, 42] := ba_toList [40, 42]
  rw [e, e2]
  congr 1
  by_cases hd : d = 42
  ·subst hd
   rfl
  ·rw [decide_eq_false (by simp [hd])]
   rw [beq_eq_false_iff_ne]
   intro h
   simp at h
   exact hd h
theorem letter_f (c : UInt8) : lex_letter.f (c.toNat : Int) = some (letB c) := by
 unfold lex_letter.f letB
 by_cases h1 : 97 ≤ c.toNat
 ·rw [if_pos (by omega)]
  by_cases h2 : c.toNat ≤ 122
  ·rw [if_pos (by omega), decide_eq_true h1, decide_eq_true h2]
   rfl
  ·rw [if_neg (by omega), if_pos (by omega), decide_eq_false h2, decide_eq_false (by omega), decide_eq_false (show ¬ c.toNat ≤ 90 by omega)]
   simp
 ·rw [if_neg (by omega), decide_eq_false h1]
  by_cases h3 : 65 ≤ c.toNat
  ·rw [if_pos (by omega), decide_eq_true h3]
   congr 1
   by_cases h4 : c.toNat ≤ 90
   ·rw [decide_eq_true h4, decide_eq_true (by omega)]
    rfl
   ·rw [decide_eq_false h4, decide_eq_false (by omega)]
    rfl
  ·rw [if_neg (by omega), decide_eq_false h3]
   rfl
theorem class_j1 (c : UInt8) (r : List UInt8) : lex_classOf.j1 2 (ba (c :: r)) (c.toNat : Int) (digB c) = some (if digB c = true then 2 else if letB c = true then 1 else if blkB c = true then 6 else 0) := by
 have h1 : (0 : Int) < ((ba (c :: r)).size : Int) := by rw [ba_size]; simp only [List.length_cons]; omega
 rw [lex_classOf.j1]
 by_cases hd : digB c = true
 ·rw [if_pos hd, if_pos hd]
 ·rw [if_neg hd, if_neg hd, letter_f, Option.bind_some]
  by_cases hl : letB c = true
  ·rw [if_pos hl, if_pos hl]
  ·rw [if_neg hl, if_neg hl, if_pos h1, ba_bt]
   unfold blkB
   by_cases c9 : c.toNat = 9
   ·rw [if_pos (by omega), lex_classOf.j2, if_pos (by rw [beq_iff_eq]; omega), decide_eq_true c9]
    rfl
   ·rw [if_neg (by omega), decide_eq_false c9]
    by_cases c10 : c.toNat = 10
    ·rw [if_pos (by omega), lex_classOf.j2, if_pos (by rw [beq_iff_eq]; omega), decide_eq_true c10]
     rfl
    ·rw [if_neg (by omega), decide_eq_false c10, lex_classOf.j2]
     by_cases c13 : c.toNat = 13
     ·rw [if_pos (by rw [beq_iff_eq]; omega), decide_eq_true c13]
      rfl
     ·rw [if_neg (by rw [beq_iff_eq]; omega), decide_eq_false c13]
      by_cases c32 : c.toNat = 32
      ·rw [if_pos (by omega), decide_eq_true c32]
       rfl
      ·rw [if_neg (by omega), decide_eq_false c32]
       rfl
theorem class_j0 (c : UInt8) (r : List UInt8) (b : Bool) (hb : b = decide (c.toNat = 40 ∧ r.head? = some 42)) : lex_classOf.j0 3 (ba (c :: r)) (c.toNat : Int) b = some (classL (c :: r)) := by
 rw [lex_classOf.j0, hb, show classL (c :: r) = (if c.toNat = 40 ∧ r.head? = some 42 then 5 else if c.toNat = 39 then 3 else if c.toNat = 34 then 4 else if digB c = true then 2 else if letB c = true then 1 else if blkB c = true then 6 else 0) from rfl]
 by_cases h5 : c.toNat = 40 ∧ r.head? = some 42
 ·rw [decide_eq_true h5, if_pos rfl, if_pos h5]
 ·rw [decide_eq_false h5, if_neg (by decide), if_neg h5]
  by_cases h39 : c.toNat = 39
  ·rw [if_pos (by omega), if_pos h39]
  ·rw [if_neg (by omega), if_neg h39]
   by_cases h34 : c.toNat = 34
   ·rw [if_pos (by omega), if_pos h34]
   ·rw [if_neg (by omega), if_neg h34, ← class_j1 c r]
    unfold digB
    by_cases h48 : 48 ≤ c.toNat
    ·rw [if_pos (by omega), decide_eq_true h48]
     congr 1
     rw [Bool.true_and, Bool.eq_iff_iff, decide_eq_true_eq, decide_eq_true_eq]
     omega
    ·rw [if_neg (by omega), decide_eq_false h48]
     rfl
theorem class_f (t : List UInt8) (h0 : t ≠ []) : lex_classOf.f 3 (ba t) = some (classL t) := by
 cases t with
 | nil => exact absurd rfl h0
 | cons c r =>
  unfold lex_classOf.f
  rw [if_pos (by rw [ba_size]; simp only [List.length_cons]; omega), ba_bt]
  by_cases hc : c.toNat = 40
  ·rw [if_pos (by omega)]
   rw [note_f c r hc, Option.bind_some]
   exact class_j0 c r _ rfl
  ·rw [if_neg (by omega)]
   exact class_j0 c r _ (by rw [decide_eq_false fun h => hc h.1])
theorem class_calls (t : List UInt8) (h0 : t ≠ []) (w : World) : Calls Tryd.prog 53 #[.string (ba t)] w fun e w' => e = .returned (.int .i64 (classL t)) ∧ Drawn0 w w' :=
 lex_classOf.calls 3 (ba t) (classL t) w (class_f t h0)
end Go.Proofs.YtniihjhlkpjnoaaDoor.Given
end
section
/- Package lex: the contract of begins; the readers, looked up by their class. -/
set_option linter.unusedVariables false
set_option linter.unusedSimpArgs false
namespace Go.Proofs.YtniihjhlkpjnoaaDoor.Given
open Go.RowKit Go.Proofs.YtniihjhlkpjnoaaDoor.PT Go.Proofs.YtniihjhlkpjnoaaDoorW.PrintWords Go.Proofs.YtniihjhlkpjnoaaDoorW.PrintLast Go.Proofs.YtniihjhlkpjnoaaDoorW.PrintMore
theorem run_store_fn (P : Program) (w : World) (a : Addr) (m : Mode) (f : Fn) (x c : Array Value) : (store a (.func f x c) m).run P w = stored P w a (.func f x c) m := run_store P w a _ m rfl
attribute [local go_sem] run_store_fn
theorem put_new {P : Program} {mty kt et : TypeId} {kd : IntKind} (hm : P.underlying mty = some (.map kt et)) (hk : P.underlying kt = some (.int kd)) (W : World) (es : Array MapEntry) (clock : Nat) (key : Int) (val : Value) (hf : Instr.findNow (.int kd) (.int kd key) es.toList 0 = some none) :
  (Instr.mapUpdate mty (.map (some W.heap.size)) (.int kd key) val).run P (W.alloc (.map es clock)) = .ok () (W.alloc (.map (es.push { key := .int kd key, val := val, born := clock }) (clock + 1))) := by
 have hb : (W.alloc (.map es clock)).heap[W.heap.size]? = some (.map es clock) := World.alloc_heap_new W _
 have hc : (Instr.checkKey false 10000 kt (.int kd key)).run P (W.alloc (.map es clock)) = .ok () (W.alloc (.map es clock)) := MapKept.run_checkKey hk (by simp [MapKept.IsKey]) false 9999
 simp [Instr.mapUpdate, run_underlying hm, MapKept.run_getObj_map hb, hc, MapKept.run_findKey hk hf, MapKept.run_setObj_map _ hb, Result.andThen]
 have e : (W.heap.push (.map es clock)).setIfInBounds W.heap.size (.map (es.push { key := .int kd key, val := val, born := clock }) (clock + 1)) = W.heap.push (.map (es.push { key := .int kd key, val := val, born := clock }) (clock + 1)) := by
  apply Array.ext'
  simp
 show World.mk .. = World.mk ..
 exact congrArg (fun h => { W with heap := h }) e
theorem look_up {P : Program} {mty kt et : TypeId} {kd : IntKind} (hm : P.underlying mty = some (.map kt et)) (hk : P.underlying kt = some (.int kd)) {W : World} {r : Nat} {es : Array MapEntry} {clock : Nat} (hb : W.heap[r]? = some (.map es clock)) (key : Int) (i : Nat) (val : Value) (hf : Instr.findNow (.int kd) (.int kd key) es.toList 0 = some (some (i, val))) :
  (Instr.lookup mty (.map (some r)) (.int kd key) false).run P W = .ok val W := by
 have hc : ∀ b, (Instr.checkKey b 10000 kt (.int kd key)).run P W = .ok () W := fun b => MapKept.run_checkKey hk (by simp [MapKept.IsKey]) b 9999
 simp [Instr.lookup, run_underlying hm, MapKept.run_getObj_map hb, hc, MapKept.run_findKey hk hf, Result.andThen]
def wB (w : World) : World :=
 ((((w.alloc (rowV wordsL)).alloc (rowV signsL)).alloc (.cells #[.slice (some ⟨w.heap.size, 0, none⟩) 33 33] 119)).alloc (.cells #[.slice (some ⟨w.heap.size + 1, 0, none⟩) 35 35] 119)).alloc (.cells #[.func (.func 74) #[] #[.pointer (some ⟨w.heap.size + 1 + 1 + 1, 0, none⟩)]] 61)
theorem wB_size (w : World) : (wB w).heap.size = w.heap.size + 5 := by simp [wB]
def readE (n : Nat) : Array MapEntry :=
 #[⟨.int .i64 1, .func (.func 77) #[] #[.pointer (some ⟨n + 2, 0, none⟩)], 0⟩, ⟨.int .i64 2, .func (.func 84) #[] #[], 1⟩, ⟨.int .i64 3, .func (.func 85) #[] #[], 2⟩, ⟨.int .i64 4, .func (.func 87) #[] #[], 3⟩,
  ⟨.int .i64 5, .func (.func 89) #[] #[], 4⟩, ⟨.int .i64 0, .func (.func 90) #[] #[.pointer (some ⟨n + 3, 0, none⟩), .pointer (some ⟨n + 4, 0, none⟩)], 5⟩]
set_option maxRecDepth 100000 in
set_option maxHeartbeats 2000000 in
theorem begins_calls (w : World) (hG : LaidG w) : Calls Tryd.prog 54 #[] w fun e w' => e = .returned (.map (some (w.heap.size + 5))) ∧ w' = (wB w).alloc (.map (readE w.heap.size) 6) := by
 have HT := Aside0.mk hG
 have hmm := @run_makeMap Tryd.prog
 clear hG
 go_enter Tryd.func54, Tryd.ntmps54
 go_upto_region 3 with (first
  | (go_at_call 72; (with_reducible refine (words_calls _ HT.out).mono ?_); rintro e w1 ⟨rfl, rfl⟩)
  | (go_at_call 73; (with_reducible refine (signs_calls _ (HT.out.keep _ ((Below.refl _ _).alloc (Nat.le_refl _) _))).mono ?_); rintro e w1 ⟨rfl, rfl⟩))
 have hsz := wB_size w
 have hu := Tryd.underlying104
 have huc := Tryd.underlying101
 change Code.wp _ _ _ _ (wB w)
 generalize hWB : wB w = W at hsz ⊢
 have HWB := Aside0.mk hWB
 clear hWB
 have HSZ := Aside0.mk hsz
 clear hsz
 have h0 := put_new (mty := 104) hu huc W #[] 0 1 (.func (.func 77) #[] #[.pointer (some ⟨w.heap.size + 1 + 1, 0, none⟩)]) rfl
 simp only [List.push_toArray, List.cons_append, List.nil_append, Nat.reduceAdd] at h0
 have h1 := put_new (mty := 104) hu huc W #[⟨.int .i64 1, .func (.func 77) #[] #[.pointer (some ⟨w.heap.size + 1 + 1, 0, none⟩)], 0⟩] 1 2 (.func (.func 84) #[] #[]) rfl
 simp only [List.push_toArray, List.cons_append, List.nil_append, Nat.reduceAdd] at h1
 have h2 := put_new (mty := 104) hu huc W #[⟨.int .i64 1, .func (.func 77) #[] #[.pointer (some ⟨w.heap.size + 1 + 1, 0, none⟩)], 0⟩, ⟨.int .i64 2, .func (.func 84) #[] #[], 1⟩] 2 3 (.func (.func 85) #[] #[]) rfl
 simp only [List.push_toArray, List.cons_append, List.nil_append, Nat.reduceAdd] at h2
 have h3 := put_new (mty := 104) hu huc W #[⟨.int .i64 1, .func (.func 77) #[] #[.pointer (some ⟨w.heap.size + 1 + 1, 0, none⟩)], 0⟩, ⟨.int .i64 2, .func (.func 84) #[] #[], 1⟩, ⟨.int .i64 3, .func (.func 85) #[] #[], 2⟩] 3 4 (.func (.func 87) #[] #[]) rfl
 simp only [List.push_toArray, List.cons_append, List.nil_append, Nat.reduceAdd] at h3
 have h4 := put_new (mty := 104) hu huc W #[⟨.int .i64 1, .func (.func 77) #[] #[.pointer (some ⟨w.heap.size + 1 + 1, 0, none⟩)], 0⟩, ⟨.int .i64 2, .func (.func 84) #[] #[], 1⟩, ⟨.int .i64 3, .func (.func 85) #[] #[], 2⟩, ⟨.int .i64 4, .func (.func 87) #[] #[], 3⟩] 4 5 (.func (.func 89) #[] #[]) rfl
 simp only [List.push_toArray, List.cons_append, List.nil_append, Nat.reduceAdd] at h4
 have h5 := put_new (mty := 104) hu huc W #[⟨.int .i64 1, .func (.func 77) #[] #[.pointer (some ⟨w.heap.size + 1 + 1, 0, none⟩)], 0⟩, ⟨.int .i64 2, .func (.func 84) #[] #[], 1⟩, ⟨.int .i64 3, .func (.func 85) #[] #[], 2⟩, ⟨.int .i64 4, .func (.func 87) #[] #[], 3⟩, ⟨.int .i64 5, .func (.func 89) #[] #[], 4⟩] 5 0 (.func (.func 90) #[] #[.pointer (some ⟨w.heap.size + 1 + 1 + 1, 0, none⟩), .pointer (some ⟨w.heap.size + 1 + 1 + 1 + 1, 0, none⟩)]) rfl
 simp only [List.push_toArray, List.cons_append, List.nil_append, Nat.reduceAdd] at h5
 clear hu huc
 go_wp2
 go_ret
 exact ⟨by rw [HSZ.out]; first | rfl | simp, by rw [HWB.out]; rfl⟩
structure Readers (n : Nat) (W : World) : Prop where
 hm : W.heap[n + 5]? = some (.map (readE n) 6)
 g1 : W.heap[n]? = some (rowV wordsL)
 c1 : W.cell? ⟨n + 2, 0, none⟩ = some (.slice (some ⟨n, 0, none⟩) 33 33)
 hs : SignBox W (n + 3) (n + 4) (n + 1)
theorem Readers.of (w : World) : Readers w.heap.size ((wB w).alloc (.map (readE w.heap.size) 6)) := by
 have hsz := wB_size w
 have hb : Below (wB w).heap.size (wB w) ((wB w).alloc (.map (readE w.heap.size) 6)) := (Below.refl _ _).alloc (Nat.le_refl _) _
 have a1 : (w.alloc (rowV wordsL)).heap.size = w.heap.size + 1 := by simp
 have a2 : ((w.alloc (rowV wordsL)).alloc (rowV signsL)).heap.size = w.heap.size + 2 := by simp
 refine ⟨?_, ?_, ?_, ?_, ?_, ?_⟩
 ·have := World.alloc_heap_new (wB w) (.map (readE w.heap.size) 6)
  rwa [hsz] at this
 ·refine (hb.block _ (by omega)).trans ?_
  unfold wB
  have e := World.alloc_heap_new w (rowV wordsL)
  exact (((((Below.refl _ _).alloc (B := w.heap.size + 1) (by simp) (rowV signsL)).alloc (by simp) _).alloc (by simp) _).alloc (by simp) _).block w.heap.size (by omega) |>.trans e
 ·refine (bcell hb (by omega)).trans ?_
  simp [wB, go_sem]
 ·refine (bcell hb (by omega)).trans ?_
  simp [wB, go_sem]
 ·refine (bcell hb (by omega)).trans ?_
  simp [wB, go_sem]
 ·refine (hb.block _ (by omega)).trans ?_
  unfold wB
  have e := World.alloc_heap_new (w.alloc (rowV wordsL)) (rowV signsL)
  rw [a1] at e
  exact ((((Below.refl _ _).alloc (B := w.heap.size + 2) (by simp) _).alloc (by simp) _).alloc (by simp) _).block (w.heap.size + 1) (by omega) |>.trans e
theorem Readers.keep {n : Nat} {W W' : World} (h : Readers n W) (hk : ∀ i, n ≤ i → i < n + 6 → W'.heap[i]? = W.heap[i]?) : Readers n W' := by
 obtain ⟨hm, g1, c1, ⟨cb, co, hg⟩⟩ := h
 exact ⟨(hk _ (by omega) (by omega)).trans hm, (hk _ (by omega) (by omega)).trans g1, (World.cell?_of_block (a := ⟨n + 2, 0, none⟩) (hk (n + 2) (by omega) (by omega))).trans c1,
  ⟨(World.cell?_of_block (a := ⟨n + 3, 0, none⟩) (hk (n + 3) (by omega) (by omega))).trans cb, (World.cell?_of_block (a := ⟨n + 4, 0, none⟩) (hk (n + 4) (by omega) (by omega))).trans co, (hk _ (by omega) (by omega)).trans hg⟩⟩
theorem classL_in (t : List UInt8) : classL t = 0 ∨ classL t = 1 ∨ classL t = 2 ∨ classL t = 3 ∨ classL t = 4 ∨ (classL t = 5 ∧ 2 ≤ t.length) ∨ classL t = 6 := by
 cases t with
 | nil => exact .inl rfl
 | cons c r =>
  rw [show classL (c :: r) = (if c.toNat = 40 ∧ r.head? = some 42 then 5 else if c.toNat = 39 then 3 else if c.toNat = 34 then 4 else if digB c = true then 2 else if letB c = true then 1 else if blkB c = true then 6 else 0) from rfl]
  by_cases h : c.toNat = 40 ∧ r.head? = some 42
  ·rw [if_pos h]
   refine .inr (.inr (.inr (.inr (.inr (.inl ⟨rfl, ?_⟩)))))
   cases r with
   | nil => exact absurd h.2 (by simp)
   | cons d r => simp
  ·rw [if_neg h]
   repeat' split
   all_goals omega
theorem read_calls (t : List UInt8) (h0 : t ≠ []) (ht : t.length ≤ 4000000000) (h6 : classL t ≠ 6) (n : Nat) : ∃ (f : Nat) (cap : Array Value) (i : Nat), Instr.findNow (.int .i64) (.int .i64 (classL t)) (readE n).toList 0 = some (some (i, .func (.func f) #[] cap)) ∧
  (∀ args W, (callFunc f args).run Tryd.prog W = .ok (.enter f args) W) ∧
  ∀ W, Readers n W → LaidG W → Calls Tryd.prog f (#[.string (ba t)] ++ cap) W fun e W' => e = .returned (itemV (itemL (classL t) t) 0 (itemL (classL t) t).len) ∧ Below W.heap.size W W' := by
 have hb : t.length ≤ 1099511627776 := by omega
 rcases classL_in t with h | h | h | h | h | ⟨h, h2⟩ | h
 ·rw [h]
  exact ⟨_, _, _, rfl, enters_of Tryd.func90 (by kernel_rfl) rfl, fun W hr hG => sign_reads t h0 hb W _ _ _ hr.hs⟩
 ·rw [h]
  exact ⟨_, _, _, rfl, enters_of Tryd.func77 (by kernel_rfl) rfl, fun W hr hG => letter_reads t hb W _ _ _ hr.c1 (row_there hr.g1 (by decide))⟩
 ·rw [h]
  exact ⟨_, _, _, rfl, enters_of Tryd.func84 (by kernel_rfl) rfl, fun W hr hG => number_reads t hb W⟩
 ·rw [h]
  exact ⟨_, _, _, rfl, enters_of Tryd.func85 (by kernel_rfl) rfl, fun W hr hG => tick_reads t h0 hb W⟩
 ·rw [h]
  exact ⟨_, _, _, rfl, enters_of Tryd.func87 (by kernel_rfl) rfl, fun W hr hG => quote_reads t h0 hb W⟩
 ·rw [h]
  exact ⟨_, _, _, rfl, enters_of Tryd.func89 (by kernel_rfl) rfl, fun W hr hG => note_reads t h2 ht W hG⟩
 ·exact absurd h h6
end Go.Proofs.YtniihjhlkpjnoaaDoor.Given
end
