-- Out of this text a program of mine (wip/slim.py) took what this claim does not use.
/- Package lex: Print; the builder's WriteByte with its whole frame. -/
import Derived.Test.YtniihjhlkpjnoaaDoorPVx5
import Derived.Test.YtniihjhlkpjnoaaDoorLx
import Derived.Test.YtniihjhlkpjnoaaDoorJ11
set_option linter.unusedVariables false
set_option linter.unusedSimpArgs false
namespace Go.Proofs.YtniihjhlkpjnoaaDoor.Given
open Go.RowKit Go.Shelf Go.Proofs.YtniihjhlkpjnoaaDoorW.PrintWords Go.Proofs.YtniihjhlkpjnoaaDoorW.PrintLast Go.Proofs.YtniihjhlkpjnoaaDoorW.PrintMore
set_option maxRecDepth 100000 in
set_option maxHeartbeats 0 in
theorem wb_calls {w : World} {n b : Nat} {p v : Value} {bs : List Value} (h : BldAt w n b p v bs) (hbn : b < n) (hn : n ≤ w.heap.size) (c : Int) (hlen : bs.length + 1 ≤ 140737488355328) :
  Calls Tryd.prog 40 #[.pointer (some ⟨b, 0, none⟩), .int .u8 c] w fun e w' => e = .returned .nilIface ∧ ∃ v', BldAt w' n b (.pointer (some ⟨b, 0, none⟩)) v' (bs ++ [.int .u8 c]) ∧
   (v'.ownBlock = v.ownBlock ∨ ∃ q, v'.ownBlock = some q ∧ w.heap.size ≤ q) ∧ Chg (fun i => i = b ∨ v.ownBlock = some i) w w' := by
 obtain ⟨i0, hi, hz0, hz1, hz2⟩ : ∃ i, Tryd.prog.info? 5 = some i ∧ i.zero = some (.int .u8 0) ∧ i.size = 1 ∧ i.bytes = 1 := by
  obtain ⟨i, hi, he⟩ := Option.map_eq_some_iff.1 infoB8
  simp only [Prod.mk.injEq] at he
  exact ⟨i, hi, he⟩
 have hub := Tryd.underlying86
 have HCC := Aside0.mk (check_calls h hbn)
 have HN := Aside0.mk hn
 clear h hn
 go_enter Tryd.func40, Tryd.ntmps40
 go_wp2_with (first | (go_at_call 58; refine HCC.out.mono ?_; rintro e w1 ⟨rfl, hb1, hc1⟩; have HB1 := Aside0.mk hb1; have HC1 := Aside0.mk hc1; have c0 : w1.cell? ⟨b, 0, none⟩ = some (.pointer (some ⟨b, 0, none⟩)) := (by rw [Lib.cell_of_heap hb1.blk]; rfl); have c1 : w1.cell? ⟨b, 1, none⟩ = some v := (by rw [Lib.cell_of_heap hb1.blk]; rfl); have hblt : b < w1.heap.size := (Array.getElem?_eq_some_iff.1 hb1.blk).1; clear hb1 hc1) | (at_builtin; refine wpList_append_own_at _ rfl _ _ 84 rfl n 5 i0 (.int .u8 0) 1 1 Tryd.underlying84 hi hz0 hz1 hz2 rfl (by decide) _ _ _ rfl (HB1.out.row.alloc _) ⟨w1.heap.size, 0, none⟩ 1 1 [.int .u8 c] rfl rfl ?c1 ?c2 ?c3 ?c4 ?c5 ?goon))
 case c1 =>
  intro j u hj
  have hj1 : j < 1 := (List.getElem?_eq_some_iff.1 hj).1
  obtain rfl : j = 0 := by omega
  cases hj
  simp [go_sem, Addr.add]
 case c2 => simp [Value.oneCell']
 case c3 => unfold maxLen; omega
 case c4 => omega
 case c5 => have := HC1.out.size; have := HN.out; simp; omega
 case goon =>
  intro v' w2 hown' hgrow hnil hat
  have hsz : v.ownBlock ≠ some b := fun e => by have := (HB1.out.row.lt b e).1; omega
  have hlt : b < w1.heap.size := (Array.getElem?_eq_some_iff.1 HB1.out.blk).1
  have hb2 : w2.heap[b]? = some (.cells #[.pointer (some ⟨b, 0, none⟩), v] 86 (0, 0)) := (hgrow.block b (by simp; omega) (fun e => hsz e.symm)).trans ((Below.heap_alloc w1 _ b hlt).trans HB1.out.blk)
  have d0 : w2.cell? ⟨b, 0, none⟩ = some (.pointer (some ⟨b, 0, none⟩)) := by rw [Lib.cell_of_heap hb2]; rfl
  have d1 : w2.cell? ⟨b, 1, none⟩ = some v := by rw [Lib.cell_of_heap hb2]; rfl
  have f1 : w2.frozen? ⟨b, 1, none⟩ = false := Lib.frozen_of_heap hb2 1
  obtain ⟨ao, n', cap, rfl⟩ : ∃ ao n' cap, v' = .slice ao n' cap := by
   rcases hown'.2 with ⟨hv, _⟩ | ⟨g, cap, cur, hv, _⟩
   ·exact ⟨_, _, _, hv⟩
   ·exact ⟨_, _, _, hv⟩
  have HB2 := Aside0.mk hb2
  have HO := Aside0.mk hown'
  have HG := Aside0.mk hgrow
  have HAT := Aside0.mk hat
  clear hown' hgrow hat hb2 hlt hsz hnil
  go_wp2
  go_ret
  refine ⟨rfl, .slice ao n' cap, ⟨?_, .inr rfl, ?_⟩, ?_, ?_⟩
  rotate_left
  ·rw [List.length_append]
   exact ownsRow_block HO.out fun g e => Below.heap_setCell w2 ⟨b, 1, none⟩ _ g (by have := (HO.out.lt g e).1; show g ≠ b; omega)
  ·rcases HAT.out with h | h
   ·exact .inl h
   ·exact .inr ⟨_, h, by have := HC1.out.size; simp; omega⟩
  ·have k0 : Chg (fun i => i = b ∨ v.ownBlock = some i) w1 (w1.alloc (.cells #[.int .u8 c] 5)) := Chg.of_below _ ((Below.refl _ _).alloc (Nat.le_refl _) _)
   have k1 : Chg (fun i => i = b ∨ v.ownBlock = some i) (w1.alloc (.cells #[.int .u8 c] 5)) w2 := ⟨HG.out.os, HG.out.tape, HG.out.output, HG.out.size, fun i hi hng => HG.out.block i hi fun e => hng (.inr e.symm)⟩
   have k2 := (k0.trans k1 fun i hi => .inl hi).trans (Chg.setCell (G := fun i => i = b ∨ v.ownBlock = some i) w2 (p := ⟨b, 1, none⟩) (.inl rfl) (.slice ao n' cap)) fun i hi => .inl hi
   exact (HC1.out.mono (G' := fun i => i = b ∨ v.ownBlock = some i) fun i h => .inl h).trans k2 fun i hi => .inl hi
  ·obtain ⟨hlt, hk⟩ := Array.getElem?_eq_some_iff.1 HB2.out
   show (w2.heap.modify b _)[b]? = _
   rw [Array.getElem?_eq_getElem (by rw [Array.size_modify]; exact hlt), Array.getElem_modify_self, hk]
   rfl
def tokB (x : PV.S42) : List UInt8 := (bytesL x.f0 x.f1.data.toList x.f2).1
def joinK (l : List PV.S42) : Nat → List UInt8
 | 0 => []
 | k + 1 => joinK l k ++ (if k = 0 then [] else [32]) ++ tokB (PV.rd_T42 l (k : Int))
def smallB (l : List PV.S42) : Bool := l.all fun x => decide (x.f1.size ≤ 4194304)
theorem tokB_len (x : PV.S42) : (tokB x).length ≤ x.f1.size + 3 := by
 unfold tokB bytesL
 have h : x.f1.data.toList.length = x.f1.size := Array.length_toList
 split
 ·simp only [List.length_append, List.length_cons, List.length_nil]
  omega
 ·split
  ·simp only [List.length_append, List.length_cons, List.length_nil]
   omega
  ·show x.f1.data.toList.length ≤ _
   omega
theorem small_at (l : List PV.S42) (h : smallB l = true) (k : Nat) (hk : k < l.length) : (PV.rd_T42 l (k : Int)).f1.size ≤ 4194304 := by
 unfold smallB at h
 rw [List.all_eq_true] at h
 unfold PV.rd_T42
 rw [Int.toNat_natCast, List.getD_eq_getElem?_getD, List.getElem?_eq_getElem hk]
 exact of_decide_eq_true (h _ (List.getElem_mem hk))
theorem join_len (l : List PV.S42) (h : smallB l = true) : ∀ k, k ≤ l.length → (joinK l k).length ≤ k * 4194308
 | 0, _ => by simp [joinK]
 | k + 1, hk => by
  have h1 := join_len l h k (by omega)
  have h2 := tokB_len (PV.rd_T42 l (k : Int))
  have h3 := small_at l h k (by omega)
  rw [joinK, List.length_append, List.length_append]
  have h4 : (if k = 0 then ([] : List UInt8) else [32]).length ≤ 1 := by split <;> simp
  omega
def lex_Print.f (l : List PV.S42) : Option (ByteArray × Int × Int) :=
 (PV.lex_Check.f (l.length + 2) l).bind fun c => if ¬ c.1 = 0 then some (⟨#[]⟩, c.1, c.2) else if smallB l = false ∨ 131072 < l.length then none
 else if 1048576 < (joinK l l.length).length then some (⟨#[]⟩, 2, 0) else some (ba (joinK l l.length), 0, 0)
theorem BldAt.below' {W W' : World} {n b : Nat} {p v : Value} {bs : List Value} (h : BldAt W n b p v bs) (hb : Below W.heap.size W W') : BldAt W' n b p v bs :=
 ⟨(hb.block _ (Array.getElem?_eq_some_iff.1 h.blk).1).trans h.blk, h.self, ownsRow_block h.row fun g e => hb.block g (h.row.lt g e).2⟩
structure PrI (w : World) (b : Nat) (l : List PV.S42) (k : Nat) (W : World) : Prop where
 below : Below w.heap.size w W
 size : b < W.heap.size
 bld : ∃ p v, BldAt W (b + 1) b p v (Lib.byteCells (joinK l k))
set_option maxRecDepth 100000 in
set_option maxHeartbeats 0 in
theorem lex_Print.calls (A0 : Option Addr) (c0 : Nat) (l0 : List PV.S42) (r1 : ByteArray) (r2 r3 : Int) (w : World) (hG : LaidG w) (hr0 : Kd.C PV.k42 w A0 l0.length l0) (hc0 : l0.length ≤ c0) (h : lex_Print.f l0 = some (r1, r2, r3)) :
  Calls Tryd.prog 17 #[.slice A0 l0.length c0] w fun e w' => e = .returned (.tuple #[.string r1, .int .i64 r2, .int .i64 r3]) ∧ Below w.heap.size w w' := by
 have hut := Tryd.underlying42
 unfold lex_Print.f at h
 cases hck : PV.lex_Check.f (l0.length + 2) l0 with
 | none => rw [hck] at h; cases h
 | some c =>
  rw [hck, Option.bind_some] at h
  have HCK := Aside0.mk (PV.lex_Check.calls (l0.length + 2) A0 c0 l0 c.1 c.2 w hG hr0 hc0 hck)
  obtain ⟨e0, i0⟩ := c
  dsimp only at h HCK
  by_cases he : e0 = 0
  ·rw [if_neg (fun h => h he)] at h
   split at h
   ·cases h
   ·rename_i hsm
    have hs1 : smallB l0 = true := by
     cases hb : smallB l0 with
     | true => rfl
     | false => exact absurd (.inl hb) hsm
    have hs2 : l0.length ≤ 131072 := by
     rcases Nat.lt_or_ge 131072 l0.length with h2 | h2
     ·exact absurd (.inr h2) hsm
     ·exact h2
    subst he
    have hjl := join_len l0 hs1
    have HJ := Aside0.mk hjl
    have HS1 := Aside0.mk hs1
    have HS2 := Aside0.mk hs2
    have HH := Aside0.mk h
    have H0 := Aside0.mk hr0
    clear hsm hs1 hs2 h hjl hck hr0 hG hc0
    go_enter Tryd.func17, Tryd.ntmps17
    go_wp2_with (first | (go_at_call 39; refine HCK.out.mono ?_; rintro e w1 ⟨rfl, hb1⟩; have HB1 := Aside0.mk hb1; clear hb1))
    have hbs : Below w1.heap.size w1 (w1.alloc (.cells #[.pointer none, .slice none 0 0] 86)) := (Below.refl _ _).alloc (Nat.le_refl _) _
    go_loopw [23] (fun i W => ∃ k : Nat, k ≤ l0.length ∧ i = .int .i64 k ∧ Aside0 (PrI w w1.heap.size l0 k W)) (fun i _ => l0.length - (intOf i).toNat)
    case atStart => exact ⟨0, Nat.zero_le _, rfl, ⟨⟨HB1.out.trans (hbs.mono HB1.out.size), by simp, _, _, ⟨World.alloc_heap_new w1 _, .inl rfl, World.ownsRow_nil _ _ _ _⟩⟩⟩⟩
    case round =>
     obtain ⟨k, hk, rfl, hd⟩ := hrel
     obtain ⟨p0, v0, hb0⟩ := hd.out.bld
     have hbsz := hd.out.size
     have hbelow := hd.out.below
     by_cases hlt : k < l0.length
     ·have hl17 := HS2.out
      have n1 : decide (k < l0.length) = true := decide_eq_true hlt
      have n2 : decide ((k : Int) < (l0.length : Int)) = true := decide_eq_true (by omega)
      have n3 : (k < l0.length) = True := eq_true hlt
      have n4 : ¬ (l0.length : Int) ≤ (k : Int) := by omega
      have n6 : (0 : Int) ≤ (k : Int) := by omega
      have kw : IntKind.i64.wrap ((k : Int) + 1) = (k : Int) + 1 := IntWalk.i64_in _ (by omega)
      obtain ⟨ad0, rfl, x0, x1, x2, x3, x4⟩ := PV.at_T42 (Kd.C_below H0.out hbelow) (k : Int) (by omega) (by omega)
      rw [Int.toNat_natCast] at x0 x1 x2 x3 x4
      have htb := tokB_len (PV.rd_T42 l0 (k : Int))
      have hsa := small_at l0 HS1.out k hlt
      have hjl := HJ.out k (by omega)
      have HJK : Aside0 (joinK l0 (k + 1) = joinK l0 k ++ (if k = 0 then [] else [32]) ++ tokB (PV.rd_T42 l0 (k : Int))) := ⟨rfl⟩
      generalize PV.rd_T42 l0 (k : Int) = ta at x0 x1 x2 x3 x4 htb hsa HJK
      have hjm : (joinK l0 k).length ≤ 549756338176 := Nat.le_trans hjl (Nat.le_trans (Nat.mul_le_mul_right _ (Nat.le_trans hk hl17)) (by decide))
      have HBY := Aside0.mk (fun W => lex_bytes.calls ta.f0 ta.f1 ta.f2 ta.f3 ta.f4 (ba (tokB ta)) (bytesL ta.f0 ta.f1.data.toList ta.f2).2 W (by unfold lex_bytes.f; rw [if_pos (by omega)]; rfl))
      have hab : Below wr.heap.size wr (wr.alloc (.cells #[.int .i64 ta.f0, .string ta.f1, .int .i64 ta.f2, .int .i64 ta.f3, .int .i64 ta.f4] 42)) := (Below.refl _ _).alloc (Nat.le_refl _) _
      have hb1 := hb0.below' hab
      have HNR : Aside0 (∀ i, v0.ownBlock = some i → w1.heap.size + 1 ≤ i ∧ i < wr.heap.size) := ⟨fun i e => hb0.row.lt i e⟩
      have HBW := Aside0.mk (hbelow.trans (hab.mono hbelow.size))
      have HSZ : Aside0 (w1.heap.size < wr.heap.size ∧ w.heap.size ≤ w1.heap.size) := ⟨hbsz, HB1.out.size⟩
      have HLT := Aside0.mk hlt
      have hlc : (Lib.byteCells (joinK l0 k)).length = (joinK l0 k).length := Lib.byteCells_length _
      by_cases hk0 : k = 0
      ·have HJK2 := Aside0.mk (show joinK l0 (k + 1) = joinK l0 k ++ tokB ta by rw [HJK.out, if_pos hk0, List.append_nil])
       have m1 : decide (0 < k) = false := decide_eq_false (by omega)
       have m2 : decide ((0 : Int) < (k : Int)) = false := decide_eq_false (by omega)
       have HWS := Aside0.mk (fun (w3 : World) (hb3 : Below (wr.alloc (.cells #[.int .i64 ta.f0, .string ta.f1, .int .i64 ta.f2, .int .i64 ta.f3, .int .i64 ta.f4] 42)).heap.size (wr.alloc (.cells #[.int .i64 ta.f0, .string ta.f1, .int .i64 ta.f2, .int .i64 ta.f3, .int .i64 ta.f4] 42)) w3) => ws_calls (hb1.below' hb3) (by omega) (by have := hb3.size; simp at this; omega) (ba (tokB ta)) (by rw [hlc, ba_size]; omega))
       clear hk0 hlt hl17 htb hsa hjl hjm hab hb1 hb0 hbelow hlc HJK hbsz hk
       go_wp2_with (first | (go_at_call 37; refine (HBY.out _).mono ?_; rintro e w3 ⟨rfl, hb3⟩; have HB3 := Aside0.mk hb3; clear hb3) | (go_at_call 41; refine (HWS.out _ HB3.out).mono ?_; rintro e w4 ⟨rfl, v4, hb4, hat4, hc4⟩; have HB4 := Aside0.mk hb4; have HC4 := Aside0.mk hc4; clear hb4 hat4 hc4))
       have hs3 := HB3.out.size
       have hsz := HSZ.out
       simp only [World.size_alloc] at hs3
       have hlt := HLT.out
       have hbf : BldAt w4 (w1.heap.size + 1) w1.heap.size (.pointer (some ⟨w1.heap.size, 0, none⟩)) v4 (Lib.byteCells (joinK l0 (k + 1))) := by
        have := HB4.out
        rw [str_cells, ← byte_app, ← HJK2.out] at this
        exact this
       have hbl : Below w.heap.size w w3 := HBW.out.trans (HB3.out.mono (by simp; omega))
       exact ⟨⟨k + 1, by omega, by first | rfl | simp, ⟨⟨hbl.trans (HC4.out.below hbl.size (by
        rintro i (h | h)
        ·omega
        ·have := (HNR.out i h).1; omega)), by have := HC4.out.size; omega, _, _, hbf⟩⟩⟩, by simp [intOf]; omega⟩
      ·have HJK2 := Aside0.mk (show joinK l0 (k + 1) = joinK l0 k ++ [32] ++ tokB ta by rw [HJK.out, if_neg hk0])
       have m1 : decide (0 < k) = true := decide_eq_true (by omega)
       have m2 : decide ((0 : Int) < (k : Int)) = true := decide_eq_true (by omega)
       have m3 : (0 < k) = True := eq_true (by omega)
       have HWB := Aside0.mk (wb_calls hb1 (by omega) (by simp; omega) 32 (by rw [hlc]; omega))
       have HCL : Aside0 (∀ w2, Chg (fun i => i = w1.heap.size ∨ v0.ownBlock = some i) (wr.alloc (.cells #[.int .i64 ta.f0, .string ta.f1, .int .i64 ta.f2, .int .i64 ta.f3, .int .i64 ta.f4] 42)) w2 → w2.cell? ⟨wr.heap.size, 0, none⟩ = some (.int .i64 ta.f0) ∧ w2.cell? ⟨wr.heap.size, 1, none⟩ = some (.string ta.f1) ∧ w2.cell? ⟨wr.heap.size, 2, none⟩ = some (.int .i64 ta.f2) ∧ w2.cell? ⟨wr.heap.size, 3, none⟩ = some (.int .i64 ta.f3) ∧ w2.cell? ⟨wr.heap.size, 4, none⟩ = some (.int .i64 ta.f4)) := ⟨fun w2 hc => by
        have hk2 := hc.block wr.heap.size (by simp) (by
         rintro (h | h)
         ·omega
         ·have := (HNR.out _ h).2; omega)
        have hce : ∀ i, w2.cell? ⟨wr.heap.size, i, none⟩ = (wr.alloc (.cells #[.int .i64 ta.f0, .string ta.f1, .int .i64 ta.f2, .int .i64 ta.f3, .int .i64 ta.f4] 42)).cell? ⟨wr.heap.size, i, none⟩ := fun i => World.cell?_of_block (a := ⟨wr.heap.size, i, none⟩) hk2
        exact ⟨(hce 0).trans (by simp [go_sem]), (hce 1).trans (by simp [go_sem]), (hce 2).trans (by simp [go_sem]), (hce 3).trans (by simp [go_sem]), (hce 4).trans (by simp [go_sem])⟩⟩
       have HWS := Aside0.mk (fun (w2 : World) (v2 : Value) (hb2 : BldAt w2 (w1.heap.size + 1) w1.heap.size (.pointer (some ⟨w1.heap.size, 0, none⟩)) v2 (Lib.byteCells (joinK l0 k) ++ [.int .u8 32])) (w3 : World) (hb3 : Below w2.heap.size w2 w3) => ws_calls (hb2.below' hb3) (by omega) (by have := (Array.getElem?_eq_some_iff.1 (hb2.below' hb3).blk).1; omega) (ba (tokB ta)) (by rw [List.length_append, hlc, ba_size]; simp only [List.length_cons, List.length_nil]; omega))
       clear hk0 hlt hl17 htb hsa hjl hjm hab hb1 hb0 hbelow hlc HJK hbsz hk
       go_wp2_with (first | (go_at_call 40; refine HWB.out.mono ?_; rintro e w2 ⟨rfl, v2, hb2, hat2, hc2⟩; have HB2 := Aside0.mk hb2; have HC2 := Aside0.mk hc2; have HAT2 := Aside0.mk hat2; obtain ⟨y0, y1, y2, y3, y4⟩ := HCL.out _ hc2; clear hb2 hc2 hat2) | (go_at_call 37; refine (HBY.out _).mono ?_; rintro e w3 ⟨rfl, hb3⟩; have HB3 := Aside0.mk hb3; clear hb3) | (go_at_call 41; refine (HWS.out _ _ HB2.out _ HB3.out).mono ?_; rintro e w4 ⟨rfl, v4, hb4, hat4, hc4⟩; have HB4 := Aside0.mk hb4; have HC4 := Aside0.mk hc4; clear hb4 hat4 hc4))
       have hs3 := HB3.out.size
       have hs2 := HC2.out.size
       have hsz := HSZ.out
       simp only [World.size_alloc] at hs2
       have hlt := HLT.out
       have hbf : BldAt w4 (w1.heap.size + 1) w1.heap.size (.pointer (some ⟨w1.heap.size, 0, none⟩)) v4 (Lib.byteCells (joinK l0 (k + 1))) := by
        have := HB4.out
        rw [str_cells, show ([.int .u8 32] : List Value) = Lib.byteCells [32] from rfl, ← byte_app, ← byte_app, ← HJK2.out] at this
        exact this
       have hb2 : Below w.heap.size w w2 := HBW.out.trans (HC2.out.below HBW.out.size (by
        rintro i (h | h)
        ·omega
        ·have := (HNR.out i h).1; omega))
       have hbl : Below w.heap.size w w3 := hb2.trans (HB3.out.mono hb2.size)
       exact ⟨⟨k + 1, by omega, by first | rfl | simp, ⟨⟨hbl.trans (HC4.out.below hbl.size (by
        rintro i (h | h)
        ·omega
        ·have := (HB2.out.row.lt i h).1; omega)), by have := HC4.out.size; omega, _, _, hbf⟩⟩⟩, by simp [intOf]; omega⟩
     ·have hkn : k = l0.length := by omega
      have hjl := HJ.out l0.length (Nat.le_refl _)
      have hlc : (Lib.byteCells (joinK l0 l0.length)).length = (joinK l0 l0.length).length := Lib.byteCells_length _
      have n1 : decide (k < l0.length) = false := decide_eq_false hlt
      have n2 : decide ((k : Int) < (l0.length : Int)) = false := decide_eq_false (by omega)
      rw [hkn] at hb0
      have hIB : Lib.IsBuilder 86 5 w1.heap.size w1.heap.size (Lib.byteCells (joinK l0 l0.length)) wr := by
       have hne : v0.ownBlock ≠ some w1.heap.size := fun e => by have := (hb0.row.lt _ e).1; omega
       rcases hb0.self with h | h
       ·rw [h] at hb0
        exact .inl ⟨Nat.le_refl _, v0, hb0.blk, row_base hb0.row (by omega), hne⟩
       ·rw [h] at hb0
        exact .inr ⟨Nat.le_refl _, v0, hb0.blk, row_base hb0.row (by omega), hne⟩
      have HLE := Aside0.mk (Tryd.Builder_Len w1.heap.size w1.heap.size _ wr hIB)
      rw [hlc] at HLE
      have HST := Aside0.mk (str_calls hb0 (by omega))
      have HNR : Aside0 (∀ i, v0.ownBlock = some i → w1.heap.size + 1 ≤ i) := ⟨fun i e => (hb0.row.lt i e).1⟩
      have HBL := Aside0.mk hbelow
      have HSZ : Aside0 (w.heap.size ≤ w1.heap.size) := ⟨HB1.out.size⟩
      by_cases hbig : 1048576 < (joinK l0 l0.length).length
      ·have h' := HH.out
       rw [if_pos hbig] at h'
       have h' := Option.some.inj h'
       injection h' with h1 h2
       injection h2 with h2 h3
       subst h1; subst h2; subst h3
       have g1 : decide (1048576 < (joinK l0 l0.length).length) = true := decide_eq_true hbig
       have g2 : decide ((1048576 : Int) < ((joinK l0 l0.length).length : Int)) = true := decide_eq_true (by omega)
       generalize (joinK l0 l0.length).length = jl at g1 g2 HLE
       clear hb0 hIB hbelow hjl hlc hkn hbsz hk hbig hlt
       go_wp2_with (first | (go_at_call 42; refine HLE.out.mono ?_; rintro e w2 ⟨rfl, rfl⟩))
       go_ret3
       exact ⟨rfl, HBL.out⟩
      ·have h' := HH.out
       rw [if_neg hbig] at h'
       have h' := Option.some.inj h'
       injection h' with h1 h2
       injection h2 with h2 h3
       subst h1; subst h2; subst h3
       have g1 : decide (1048576 < (joinK l0 l0.length).length) = false := decide_eq_false hbig
       have g2 : decide ((1048576 : Int) < ((joinK l0 l0.length).length : Int)) = false := decide_eq_false (by omega)
       generalize (joinK l0 l0.length).length = jl at g1 g2 HLE
       clear hb0 hIB hbelow hjl hlc hkn hbsz hk hbig hlt
       go_wp2_with (first | (go_at_call 42; refine HLE.out.mono ?_; rintro e w2 ⟨rfl, rfl⟩) | (go_at_call 43; refine HST.out.mono ?_; rintro e w3 ⟨rfl, hc3⟩; have HC3 := Aside0.mk hc3; clear hc3))
       go_ret3
       exact ⟨rfl, HBL.out.trans (HC3.out.below HBL.out.size fun i h => by have := HNR.out i h; have := HSZ.out; omega)⟩
  ·rw [if_pos he] at h
   have h' := Option.some.inj h
   injection h' with h1 h2
   injection h2 with h2 h3
   subst h1; subst h2; subst h3
   have q1 : (e0 == 0) = false := beq_eq_false_iff_ne.2 he
   have q2 : (e0 != 0) = true := bne_iff_ne.2 he
   have q3 : decide (e0 = 0) = false := decide_eq_false he
   clear h he hck hr0
   go_enter Tryd.func17, Tryd.ntmps17
   go_wp2_with (first | (go_at_call 39; refine HCK.out.mono ?_; rintro e w1 ⟨rfl, hb1⟩; have HB1 := Aside0.mk hb1; clear hb1))
   go_ret3
   exact ⟨rfl, HB1.out⟩
end Go.Proofs.YtniihjhlkpjnoaaDoor.Given