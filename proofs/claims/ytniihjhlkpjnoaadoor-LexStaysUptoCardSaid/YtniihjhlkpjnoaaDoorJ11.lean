-- Out of this text a program of mine (wip/slim.py) took what this claim does not use.
/- Package lex: the contracts of latin, of strings.Map as Veil calls it, and of the builder's WriteString and WriteByte. -/
import Derived.Test.YtniihjhlkpjnoaaDoorJ10
import Derived.Test.YtniihjhlkpjnoaaDoorShelf
import Derived.Lib.ConvBytes
import Derived.Laws.BytesArg
import Derived.Lib.TrimAscii
import Derived.Lib.MapU
import Derived.Lib.AppendStr
section
set_option linter.unusedVariables false
set_option linter.unusedSimpArgs false
namespace Go.Proofs.YtniihjhlkpjnoaaDoor.Given
open Go.RowKit Go.Shelf Go.Proofs.YtniihjhlkpjnoaaDoor.PT Go.Proofs.YtniihjhlkpjnoaaDoorW.PrintWords Go.Proofs.YtniihjhlkpjnoaaDoorW.PrintLast Go.Proofs.YtniihjhlkpjnoaaDoorW.PrintMore
def latB (c : UInt8) : UInt8 := if 128 ≤ c.toNat then 120 else c
def vF (x : Int) : Int := if x = 10 then 10 else 32
theorem lat_ascii (c : UInt8) : (latB c).toNat < 128 := by
 unfold latB
 split
 ·decide
 ·omega
theorem lat_veil (c : UInt8) : UInt8.ofNat (vF ((latB c).toNat : Int)).toNat = veilB c := by
 unfold latB veilB vF
 by_cases h : 128 ≤ c.toNat
 ·rw [if_pos h, if_neg (by decide), if_neg (fun e => by rw [e] at h; exact absurd h (by decide))]
  rfl
 ·rw [if_neg h]
  by_cases h2 : c = 10
  ·subst h2
   rfl
  ·rw [if_neg h2, if_neg (fun e => h2 (UInt8.toNat_inj.1 (by have : ((c.toNat : Nat) : Int) = 10 := e; show c.toNat = (10 : UInt8).toNat; have h3 : c.toNat = 10 := (by omega); exact h3)))]
   rfl
theorem mapGo_veil : ∀ (n : Nat) (l : List UInt8), l.length ≤ n → (∀ c ∈ l, c.toNat < 128) → Lib.mapGoD vF n l = l.map fun c => UInt8.ofNat (vF (c.toNat : Int)).toNat
 | 0, [], _, _ => rfl
 | 0, c :: r, h, _ => by simp at h
 | n + 1, [], _, _ => rfl
 | n + 1, c :: r, h, ha => by
  rw [Lib.mapGoD, if_neg (by simp), Lib.decodeL_ascii c r (ha c List.mem_cons_self)]
  have h0 : 0 ≤ vF (c.toNat : Int) ∧ vF (c.toNat : Int) ≤ 127 := by unfold vF; split <;> decide
  rw [if_pos h0.1]
  have he : Lib.encodeRune (vF (c.toNat : Int)) = [UInt8.ofNat (vF (c.toNat : Int)).toNat] := by
   unfold Lib.encodeRune
   rw [Lib.encodeRuneZ_one h0.1 h0.2]
   rfl
  rw [he, List.drop_one, List.tail_cons, mapGo_veil n r (by simpa using h) fun x hx => ha x (List.mem_cons_of_mem _ hx)]
  rfl
theorem map_lat (t : List UInt8) : (⟨(Lib.mapD vF (ba (t.map latB)).data.toList).toArray⟩ : ByteArray) = ba (t.map veilB) := by
 rw [ba_list]
 unfold Lib.mapD
 rw [mapGo_veil _ _ (Nat.le_refl _) (by
  intro c hc
  obtain ⟨x, _, rfl⟩ := List.mem_map.1 hc
  exact lat_ascii x), List.map_map]
 have : ((fun c : UInt8 => UInt8.ofNat (vF (c.toNat : Int)).toNat) ∘ latB) = veilB := funext fun c => lat_veil c
 rw [this]
 rfl
theorem veil1_calls (x : Nat) (hx : x ≤ 1114111) (w : World) : Calls Tryd.prog 47 #[.int .i32 (x : Int)] w fun e w' => e = .returned (.int .i32 (vF (x : Int))) ∧ w' = w := by
 by_cases h : (x : Int) = 10
 ·have k1 : ((x : Int) == 10) = true := beq_iff_eq.2 h
  have k2 : decide ((x : Int) = 10) = true := decide_eq_true h
  have hv : vF (x : Int) = 10 := if_pos h
  have hx10 : x = 10 := by omega
  have k3 : (x == 10) = true := beq_iff_eq.2 hx10
  have HV := Aside0.mk (show vF (x : Int) = (x : Int) by rw [hv, h])
  clear hv h hx10 hx
  go_enter Tryd.func47, Tryd.ntmps47
  go_wp2
  go_ret
  exact ⟨by rw [HV.out]; rfl, rfl⟩
 ·have k1 : ((x : Int) == 10) = false := beq_eq_false_iff_ne.2 h
  have k2 : decide ((x : Int) = 10) = false := decide_eq_false h
  have hx10 : ¬ x = 10 := by omega
  have k3 : (x == 10) = false := beq_eq_false_iff_ne.2 hx10
  have HV := Aside0.mk (show vF (x : Int) = 32 from if_neg h)
  clear h hx10 hx
  go_enter Tryd.func47, Tryd.ntmps47
  go_wp2
  go_ret
  exact ⟨by rw [HV.out]; rfl, rfl⟩
theorem map_calls (t : List UInt8) (ht : t.length ≤ 1048576) (w : World) (hT : Lib.Utf8Tabs 1 2 w) :
  Calls Tryd.prog 46 #[.func (.func 47) #[] #[], .string (ba (t.map latB))] w fun e w' => e = .returned (.string (ba (t.map veilB))) ∧ Below w.heap.size w w' := by
 have h := Tryd.strings_Map_runes 47 #[] (enters_of Tryd.func47 (by kernel_rfl) rfl) vF (ba (t.map latB)) w (by rw [ba_size, List.length_map]; omega) (fun W x hx hb => (veil1_calls x hx W).mono fun e w' ⟨h1, h2⟩ => ⟨h1, 0, by rw [h2]; rfl⟩)
  (fun x hx => by unfold vF; split <;> decide) hT
 rw [map_lat] at h
 exact h
def mixL (k : Nat) (t : List UInt8) (j : Nat) : UInt8 := if j < k then latB (t.getD j 0) else t.getD j 0
set_option maxRecDepth 100000 in
set_option maxHeartbeats 0 in
theorem latin_calls (t : List UInt8) (ht : t.length ≤ 1048576) (w : World) : Calls Tryd.prog 48 #[.string (ba t)] w fun e w' => e = .returned (.string (ba (t.map latB))) ∧ Below w.heap.size w w' := by
 have hsz := ba_size t
 have hb0 : Below w.heap.size w (Lib.bytesWorld w 5 (ba t)) := ⟨rfl, rfl, rfl, by rw [Lib.bytesWorld_size]; omega, fun i hi => Lib.bytesWorld_at_old w _ _ i hi⟩
 have hc0 : ∀ j, j < t.length → (Lib.bytesWorld w 5 (ba t)).cell? ⟨w.heap.size, j, none⟩ = some (.int .u8 ((t.getD j 0).toNat : Int)) := fun j hj => by
  have := Lib.bytesWorld_cell w 5 (ba t) j (by omega)
  rwa [ba_list] at this
 have hf0 : ∀ j, j < t.length → (Lib.bytesWorld w 5 (ba t)).frozen? ⟨w.heap.size, j, none⟩ = false := fun j hj => by
  have h1 : j < (Lib.bytesCells w 5 (ba t)).size := by
   unfold Lib.bytesCells
   simp [ba]
   omega
  simp [World.frozen?, Lib.bytesWorld_at_new]
  omega
 have hcv := Lib.run_convert_string_bytes (P := Tryd.prog) w 9 84 5 (ba t) Tryd.underlying9 Tryd.underlying84 Tryd.underlying5
 generalize Lib.bytesWorld w 5 (ba t) = W0 at hb0 hc0 hf0 hcv
 generalize grownCap w (ba t).size 0 5 = cp at hcv
 have HB0 := Aside0.mk hb0
 have HC0 := Aside0.mk hc0
 have HF0 := Aside0.mk hf0
 have HS0 : Aside0 (w.heap.size < W0.heap.size ∨ t.length = 0) := by
  by_cases h : t.length = 0
  ·exact ⟨.inr h⟩
  ·exact ⟨.inl (World.block_lt_of_cell? W0 _ (hc0 0 (by omega)))⟩
 clear hb0 hc0 hf0
 go_enter Tryd.func48, Tryd.ntmps48
 go_wp2
 go_loopw [10] (fun i W => ∃ k : Nat, k ≤ (ba t).size ∧ i = .int .i64 k ∧ Aside0 (Below w.heap.size w W) ∧ Aside0 (∀ j, j < t.length → W.cell? ⟨w.heap.size, j, none⟩ = some (.int .u8 ((mixL k t j).toNat : Int))) ∧ Aside0 (∀ j, j < t.length → W.frozen? ⟨w.heap.size, j, none⟩ = false)) (fun i _ => (ba t).size - (intOf i).toNat)
 case atStart => exact ⟨0, Nat.zero_le _, rfl, HB0, ⟨fun j hj => by unfold mixL; rw [if_neg (by omega)]; exact HC0.out j hj⟩, HF0⟩
 case round =>
  obtain ⟨k, hk, rfl, hd, hcs, hfs⟩ := hrel
  by_cases hlt : k < (ba t).size
  ·have n1 : decide (k < (ba t).size) = true := decide_eq_true hlt
   have n2 : decide ((k : Int) < ((ba t).size : Int)) = true := decide_eq_true (by omega)
   have n3 : (k < (ba t).size) = True := eq_true hlt
   have n4 : ¬ ((ba t).size : Int) ≤ (k : Int) := by omega
   have n5 : (0 : Int) ≤ (k : Int) := by omega
   have hb5 : -9223372036854775808 ≤ (k : Int) + 1 ∧ (k : Int) + 1 ≤ 9223372036854775807 := by omega
   have kw : IntKind.i64.wrap ((k : Int) + 1) = (k : Int) + 1 := IntWalk.i64_in _ hb5
   have ck := hcs.out k (by omega)
   have fk := hfs.out k (by omega)
   have hmk : mixL k t k = t.getD k 0 := if_neg (Nat.lt_irrefl k)
   rw [hmk] at ck
   have HLT := Aside0.mk hlt
   have HSZ := Aside0.mk hsz
   generalize hgc : t.getD k 0 = c at ck
   have HGC := Aside0.mk hgc
   clear hb5 hmk hgc
   by_cases hc : 128 ≤ c.toNat
   ·have m1 : decide (128 ≤ c.toNat) = true := decide_eq_true hc
    have m2 : decide ((128 : Int) ≤ (c.toNat : Int)) = true := decide_eq_true (by omega)
    have HC := Aside0.mk hc
    clear hc
    go_wp2
    have hlt := HLT.out
    have hsz := HSZ.out
    refine ⟨⟨k + 1, by omega, by first | rfl | simp, ⟨hd.out.setCell (p := ⟨w.heap.size, k, none⟩) (Nat.le_refl _) _⟩, ⟨fun j hj => ?_⟩, ⟨fun j hj => ?_⟩⟩, by simp [intOf]; omega⟩
    ·by_cases hjk : j = k
     ·subst hjk
      have hv : mixL (j + 1) t j = 120 := by unfold mixL; rw [if_pos (by omega), HGC.out]; unfold latB; rw [if_pos HC.out]
      rw [hv]
      exact World.cell?_setCell_same _ _ _ ck
     ·have hv : mixL (k + 1) t j = mixL k t j := by unfold mixL; by_cases h : j < k; rw [if_pos h, if_pos (by omega)]; rw [if_neg h, if_neg (by omega)]
      rw [hv]
      exact (World.cell?_setCell_other _ _ _ _ (by intro e; injection e with _ e2; exact hjk e2.symm)).trans (hcs.out j hj)
    ·have := hfs.out j hj
     simpa [go_sem] using this
   ·have m1 : decide (128 ≤ c.toNat) = false := decide_eq_false hc
    have m2 : decide ((128 : Int) ≤ (c.toNat : Int)) = false := decide_eq_false (by omega)
    have HC := Aside0.mk hc
    clear hc
    go_wp2
    have hlt := HLT.out
    have hsz := HSZ.out
    refine ⟨⟨k + 1, by omega, by first | rfl | simp, hd, ⟨fun j hj => ?_⟩, hfs⟩, by simp [intOf]; omega⟩
    by_cases hjk : j = k
    ·subst hjk
     have hv : mixL (j + 1) t j = mixL j t j := by unfold mixL; rw [if_pos (by omega), if_neg (by omega), HGC.out]; unfold latB; rw [if_neg HC.out]
     rw [hv]
     exact hcs.out j hj
    ·have hv : mixL (k + 1) t j = mixL k t j := by unfold mixL; by_cases h : j < k; rw [if_pos h, if_pos (by omega)]; rw [if_neg h, if_neg (by omega)]
     rw [hv]
     exact hcs.out j hj
  ·have n1 : decide (k < (ba t).size) = false := decide_eq_false hlt
   have n2 : decide ((k : Int) < ((ba t).size : Int)) = false := decide_eq_false (by omega)
   have hall : ∀ j, j < t.length → mixL k t j = latB (t.getD j 0) := fun j hj => by unfold mixL; rw [if_pos (by omega)]
   have hgd : ∀ j, j < t.length → ((t.map fun c => ((latB c).toNat : Int)).getD j 0) = ((latB (t.getD j 0)).toNat : Int) := fun j hj => by
    rw [List.getD_eq_getElem?_getD, List.getD_eq_getElem?_getD, List.getElem?_map, List.getElem?_eq_getElem hj]
    rfl
   have hcb := run_convert_bytes_arg (P := Tryd.prog) wr 84 5 Tryd.underlying84 Tryd.underlying5 w.heap.size 0 t.length cp (t.map fun c => ((latB c).toNat : Int)) (by rw [List.length_map]) (fun j hj => by rw [Nat.zero_add, hcs.out j (by omega), hall j (by omega), hgd j (by omega)]) 9 Tryd.underlying9
   have hst : strOfNums (t.map fun c => ((latB c).toNat : Int)) = ba (t.map latB) := by
    apply ByteArray.ext
    apply Array.toList_inj.1
    show (strOfNums _).data.toList = (ba _).data.toList
    rw [strOfNums_data, ba_list, List.map_map]
    exact List.map_congr_left fun c _ => by show UInt8.ofNat ((latB c).toNat : Int).toNat = latB c; rw [Int.toNat_natCast, UInt8.ofNat_toNat]
   rw [hst] at hcb
   clear hall hgd hst
   go_wp2
   go_ret
   exact ⟨rfl, hd.out⟩
end Go.Proofs.YtniihjhlkpjnoaaDoor.Given
end
section
/- The builder's WriteString, with its whole frame. -/
set_option linter.unusedVariables false
set_option linter.unusedSimpArgs false
namespace Go.Proofs.YtniihjhlkpjnoaaDoor.Given
open Go.RowKit Go.Shelf Go.Proofs.YtniihjhlkpjnoaaDoor.PT Go.Proofs.YtniihjhlkpjnoaaDoorW.PrintWords Go.Proofs.YtniihjhlkpjnoaaDoorW.PrintLast Go.Proofs.YtniihjhlkpjnoaaDoorW.PrintMore
open Lib in
theorem append_string_at {P : Program} (w : World) (base : Nat) (t u ty e : TypeId) (i : TypeInfo) (ht : P.underlying t = some (.slice e)) (hu : P.underlying u = some .string) (hi : P.info? e = some i) (hz : i.zero = some (.int .u8 0))
  (hsize : i.size = 1) (hby : i.bytes = 1) (v : Value) (n : Nat) (xs : List Value) (hown : w.ownsRow base e 1 v n xs) (s : ByteArray) (h63 : n + s.size ≤ maxLen) (hbytes : n + s.size ≤ 140737488355328) {v' : Value} {w' : World}
  (hr : (Builtin.append_ #[t, u] ty #[v, .string s]).run P w = .ok v' w') : v'.ownBlock = v.ownBlock ∨ v'.ownBlock = some w.heap.size := by
 have hsmall : n + s.size ≤ 9223372036854775807 := by simp only [maxLen] at h63; omega
 have hxl : xs.length = n := by simpa using hown.1
 rcases hown.2 with ⟨rfl, rfl⟩ | ⟨g, cap, cur, rfl, hbg, hg, hnc, hcm, hcs, htake⟩
 ·by_cases hm : s.size = 0
  ·have hf := run_firstCells_string (P := P) w 1 s
   rw [hm] at hf
   have h2 : (Builtin.append_ #[t, u] ty #[.slice none 0 0, .string s]).run P w = .ok (.slice none 0 0) w := by
    simp [Builtin.append_, run_underlying ht, run_underlying hu, sizeOf, typeInfo, hi, hsize, Builtin.lenOf, hm, hf]
   rw [h2] at hr
   cases hr
   exact .inl rfl
  ·have h2 := run_append_nil_string (P := P) w t u ty e i (.int .u8 0) ht hu hi hz s (by omega) (by omega) (by rw [hby]; omega)
   rw [h2] at hr
   cases hr
   exact .inr rfl
 ·by_cases hroom : n + s.size ≤ cap
  ·have hcs' : cur.size = cap := by simpa using hcs
   have h2 := run_append_room_string (P := P) w t u ty e i ht hu hi hsize g n cap cur hg s hroom (by omega)
   rw [h2] at hr
   cases hr
   exact .inl rfl
  ·have holds : ∀ j u, xs[j]? = some u → w.cell? ((⟨g, 0, none⟩ : Addr).add j) = some u := hown.cells (g := g) rfl
   have h2 := run_append_grow_string (P := P) w t u ty e i (.int .u8 0) ht hu hi hz ⟨g, 0, none⟩ n cap xs (by rw [hsize]; simpa using hxl) holds s (by omega) (by omega) (by rw [hby]; exact growslice_fits (by omega) (by omega))
   rw [h2] at hr
   cases hr
   exact .inr rfl
open Lib in
theorem wpList_append_string_at {P : Program} {w : World} {ops : Array Oper} {rest : List Oper} {o : Oper} {a : Act} {Q : Exit → Act → World → Prop} (hgd : o.guard = none) (sl x : Operand) (t u : TypeId)
  (ho : o.op = .call { callee := .builtin .append, args := #[sl, x], argTypes := #[t, u] })
  (base : Nat) (e : TypeId) (i : TypeInfo) (ht : P.underlying t = some (.slice e)) (hu : P.underlying u = some .string) (hi : P.info? e = some i) (hz : i.zero = some (.int .u8 0))
  (hsize : i.size = 1) (hby : i.bytes = 1)
  (v : Value) (n : Nat) (xs : List Value) (hs : a.eval sl = v) (hown : w.ownsRow base e 1 v n xs) (s : ByteArray) (hx : a.eval x = .string s)
  (h63 : n + s.size ≤ maxLen) (hbytes : n + s.size ≤ 140737488355328) (hbase : base ≤ w.heap.size)
  (h : ∀ v' w', w'.ownsRow base e 1 v' (n + s.size) (xs ++ strCells s) → w.grownBy w' v.ownBlock → (v'.ownBlock = v.ownBlock ∨ v'.ownBlock = some w.heap.size) → wpList P ops Q rest (a.put o.dst v') w') : wpList P ops Q (o :: rest) a w := by
 refine wpList_plain hgd fun K hK => ?_
 obtain ⟨v', w', hr, h2, h3, h4⟩ := run_append_own_string (P := P) w base t u o.type e i ht hu hi hz hsize hby v n xs hown s h63 hbytes hbase
 have hat := append_string_at (P := P) w base t u o.type e i ht hu hi hz hsize hby v n xs hown s h63 hbytes hr
 unfold Oper.wp
 rw [show (execOp a.eval o).run P w = .ok (.value v') w' by
  simp [execOp, ho, resolve, invoke, builtin, hs, hx, hr, Result.andThen]]
 exact hK _ _ (h v' w' h2 h3 hat)
structure BldAt (W : World) (n b : Nat) (p v : Value) (bs : List Value) : Prop where
 blk : W.heap[b]? = some (.cells #[p, v] 86 (0, 0))
 self : p = .pointer none ∨ p = .pointer (some ⟨b, 0, none⟩)
 row : W.ownsRow n 5 1 v bs.length bs
theorem check_calls {w : World} {n b : Nat} {p v : Value} {bs : List Value} (h : BldAt w n b p v bs) (hbn : b < n) :
  Calls Tryd.prog 58 #[.pointer (some ⟨b, 0, none⟩)] w fun e w' => e = .returned (.tuple #[]) ∧ (BldAt w' n b (.pointer (some ⟨b, 0, none⟩)) v bs ∧ Chg (fun i => i = b) w w') := by
 obtain ⟨h1, h2, h3⟩ := h
 have c0 : w.cell? ⟨b, 0, none⟩ = some p := by rw [Lib.cell_of_heap h1]; rfl
 rcases h2 with rfl | rfl
 ·refine (Any.Builder_copyCheck_fresh ({ Tryd.lays230 with } : Lays.n240 Tryd.prog Tryd.lays230_ren) Tryd.Builder_Extra_230.toX72 b w c0 (by simp [World.shape?, h1]; rfl) (Lib.frozen_of_heap h1 0)).mono ?_
  rintro e w' ⟨rfl, rfl⟩
  refine ⟨rfl, ⟨?_, .inr rfl, ?_⟩, Chg.setCell (G := fun i => i = b) w (p := ⟨b, 0, none⟩) rfl _⟩
  ·obtain ⟨hlt, hk⟩ := Array.getElem?_eq_some_iff.1 h1
   show (w.heap.modify b _)[b]? = _
   rw [Array.getElem?_eq_getElem (by rw [Array.size_modify]; exact hlt), Array.getElem_modify_self, hk]
   rfl
  ·exact ownsRow_block h3 fun g e => Below.heap_setCell w ⟨b, 0, none⟩ _ g (by have := (h3.lt g e).1; show g ≠ b; omega)
 ·refine (Any.Builder_copyCheck_used ({ Tryd.lays230 with } : Lays.n240 Tryd.prog Tryd.lays230_ren) Tryd.Builder_Extra_230.toX72 b w c0).mono ?_
  rintro e w' ⟨rfl, rfl⟩
  exact ⟨rfl, ⟨h1, .inr rfl, h3⟩, Chg.refl _ _⟩
theorem infoB8 : (Tryd.prog.info? 5).map (fun i => (i.zero, i.size, i.bytes)) = some (some (.int .u8 0), 1, 1) := by kernel_rfl
set_option maxRecDepth 100000 in
set_option maxHeartbeats 0 in
theorem ws_calls {w : World} {n b : Nat} {p v : Value} {bs : List Value} (h : BldAt w n b p v bs) (hbn : b < n) (hn : n ≤ w.heap.size) (s : ByteArray) (hlen : bs.length + s.size ≤ 140737488355328) :
  Calls Tryd.prog 41 #[.pointer (some ⟨b, 0, none⟩), .string s] w fun e w' => e = .returned (.tuple #[.int .i64 s.size, .nilIface]) ∧ ∃ v', BldAt w' n b (.pointer (some ⟨b, 0, none⟩)) v' (bs ++ Lib.strCells s) ∧
   (v'.ownBlock = v.ownBlock ∨ ∃ q, v'.ownBlock = some q ∧ w.heap.size ≤ q) ∧ Chg (fun i => i = b ∨ v.ownBlock = some i) w w' := by
 obtain ⟨i0, hi, hz0, hz1, hz2⟩ : ∃ i, Tryd.prog.info? 5 = some i ∧ i.zero = some (.int .u8 0) ∧ i.size = 1 ∧ i.bytes = 1 := by
  obtain ⟨i, hi, he⟩ := Option.map_eq_some_iff.1 infoB8
  simp only [Prod.mk.injEq] at he
  exact ⟨i, hi, he⟩
 have hub := Tryd.underlying86
 have HCC := Aside0.mk (check_calls h hbn)
 have HN := Aside0.mk hn
 clear h hn
 go_enter Tryd.func41, Tryd.ntmps41
 go_wp2_with (first | (go_at_call 58; refine HCC.out.mono ?_; rintro e w1 ⟨rfl, hb1, hc1⟩; have HB1 := Aside0.mk hb1; have HC1 := Aside0.mk hc1; have c0 : w1.cell? ⟨b, 0, none⟩ = some (.pointer (some ⟨b, 0, none⟩)) := (by rw [Lib.cell_of_heap hb1.blk]; rfl); have c1 : w1.cell? ⟨b, 1, none⟩ = some v := (by rw [Lib.cell_of_heap hb1.blk]; rfl); clear hb1 hc1) | (at_builtin; refine wpList_append_string_at rfl _ _ 84 9 rfl n 5 i0 Tryd.underlying84 Tryd.underlying9 hi hz0 hz1 hz2 _ _ _ rfl HB1.out.row s rfl ?c3 ?c4 ?c5 ?goon))
 case c3 => unfold maxLen; omega
 case c4 => omega
 case c5 => have := HC1.out.size; have := HN.out; omega
 case goon =>
  intro v' w2 hown' hgrow hat
  have hsz : v.ownBlock ≠ some b := fun e => by have := (HB1.out.row.lt b e).1; omega
  have hlt : b < w1.heap.size := (Array.getElem?_eq_some_iff.1 HB1.out.blk).1
  have hb2 : w2.heap[b]? = some (.cells #[.pointer (some ⟨b, 0, none⟩), v] 86 (0, 0)) := (hgrow.block b hlt (fun e => hsz e.symm)).trans HB1.out.blk
  have d0 : w2.cell? ⟨b, 0, none⟩ = some (.pointer (some ⟨b, 0, none⟩)) := by rw [Lib.cell_of_heap hb2]; rfl
  have d1 : w2.cell? ⟨b, 1, none⟩ = some v := by rw [Lib.cell_of_heap hb2]; rfl
  have f1 : w2.frozen? ⟨b, 1, none⟩ = false := Lib.frozen_of_heap hb2 1
  obtain ⟨ao, n', cap, rfl⟩ : ∃ ao n' cap, v' = .slice ao n' cap := by
   rcases hown'.2 with ⟨hv, _⟩ | ⟨g, cap, cur, hv, _⟩
   ·exact ⟨_, _, _, hv⟩
   ·exact ⟨_, _, _, hv⟩
  have HB2 := Aside0.mk hb2
  have HO := Aside0.mk hown'
  have HG := Aside0.mk hgrow
  have HAT := Aside0.mk hat
  have HLT := Aside0.mk hlt
  clear hown' hgrow hat hb2 hlt hsz
  go_wp2
  go_ret2
  refine ⟨rfl, .slice ao n' cap, ⟨?_, .inr rfl, ?_⟩, ?_, ?_⟩
  rotate_left
  ·rw [List.length_append, Lib.strCells_length]
   exact ownsRow_block HO.out fun g e => Below.heap_setCell w2 ⟨b, 1, none⟩ _ g (by have := (HO.out.lt g e).1; show g ≠ b; omega)
  ·rcases HAT.out with h | h
   ·exact .inl h
   ·exact .inr ⟨_, h, HC1.out.size⟩
  ·have k1 : Chg (fun i => i = b ∨ v.ownBlock = some i) w1 w2 := ⟨HG.out.os, HG.out.tape, HG.out.output, HG.out.size, fun i hi hng => HG.out.block i hi fun e => hng (.inr e.symm)⟩
   have k2 := k1.trans (Chg.setCell (G := fun i => i = b ∨ v.ownBlock = some i) w2 (p := ⟨b, 1, none⟩) (.inl rfl) (.slice ao n' cap)) fun i hi => .inl hi
   exact (HC1.out.mono (G' := fun i => i = b ∨ v.ownBlock = some i) fun i h => .inl h).trans k2 fun i hi => .inl hi
  ·obtain ⟨hlt, hk⟩ := Array.getElem?_eq_some_iff.1 HB2.out
   show (w2.heap.modify b _)[b]? = _
   rw [Array.getElem?_eq_getElem (by rw [Array.size_modify]; exact hlt), Array.getElem_modify_self, hk]
   rfl
theorem freeze_chg (w : World) (G : Nat → Prop) (p : Addr) (n : Nat) (hp : G p.block) : Chg G w (w.drew.freeze p n) := by
 unfold World.freeze
 split
 ·exact Chg.of_below _ (Drawn0.below ⟨⟨1, rfl⟩⟩)
 ·refine ⟨rfl, rfl, rfl, by simp, fun i hi hn => ?_⟩
  have hne : p.block ≠ i := fun e => hn (e ▸ hp)
  simp [Array.getElem?_modify, hne]
  rfl
set_option maxRecDepth 100000 in
set_option maxHeartbeats 0 in
theorem str_calls {w : World} {n b : Nat} {p v : Value} {l : List UInt8} (h : BldAt w n b p v (Lib.byteCells l)) (hbn : b < n) :
  Calls Tryd.prog 43 #[.pointer (some ⟨b, 0, none⟩)] w fun e w' => e = .returned (.string (ba l)) ∧ Chg (fun i => v.ownBlock = some i) w w' := by
 obtain ⟨hbk, hself, hown⟩ := h
 have hlb := Lib.byteCells_length l
 rw [hlb] at hown
 by_cases h0 : l = []
 ·subst h0
  have hbt : (ba [] : ByteArray) = ⟨#[]⟩ := rfl
  rw [hbt]
  have hfin : ∀ {e : Ending} {w' : World}, (e = .returned (.string ⟨#[]⟩) ∧ Below w.heap.size w w') → (e = .returned (.string ⟨#[]⟩) ∧ Chg (fun i => v.ownBlock = some i) w w') := fun ⟨h1, h2⟩ => ⟨h1, Chg.of_below _ h2⟩
  rcases hown.2 with ⟨rfl, _⟩ | ⟨g, cap, cur, rfl, hbg, hg, _⟩
  ·exact (Any.Builder_String_nil Tryd.lays169 Tryd.Builder_Extra_169 w.heap.size b p w hbk).mono fun _ _ h => hfin h
  ·by_cases hc : cap = 0
   ·subst hc
    exact (Any.Builder_String_noroom Tryd.lays169 Tryd.Builder_Extra_169 w.heap.size b g p cur w (Nat.le_refl _) hbk hg).mono fun _ _ h => hfin h
   ·exact (Any.Builder_String_room Tryd.lays169 Tryd.Builder_Extra_169 w.heap.size b g cap p w hc hbk).mono fun _ _ h => hfin h
 ·have hl0 : l.length ≠ 0 := by simpa using h0
  obtain ⟨g, cap, cur, rfl, hbg, hg, hnc, hcm, hcs, htake⟩ : ∃ g cap cur, v = .slice (some ⟨g, 0, none⟩) l.length cap ∧ n ≤ g ∧ w.heap[g]? = some (.cells cur 5 (0, 0)) ∧ l.length ≤ cap ∧ cap ≤ maxLen ∧ cur.size = cap * 1 ∧ cur.toList.take (l.length * 1) = Lib.byteCells l := by
   rcases hown.2 with ⟨_, hz⟩ | ⟨g, cap, cur, hv, r⟩
   ·exact absurd hz hl0
   ·exact ⟨g, cap, cur, hv, r⟩
  have c1 : w.drew.cell? ⟨b, 1, none⟩ = some (.slice (some ⟨g, 0, none⟩) l.length cap) := by
   have : w.drew.heap[b]? = some (.cells #[p, .slice (some ⟨g, 0, none⟩) l.length cap] 86 (0, 0)) := hbk
   rw [Lib.cell_of_heap this]; rfl
  have hSD : (Builtin.unsafeSliceData_ #[84] 108 #[.slice (some ⟨g, 0, none⟩) l.length cap]).run Tryd.prog w.drew = .ok (.pointer (some ⟨g, 0, none⟩)) w.drew :=
   Lib.run_unsafeSliceData_row _ _ _ _ _ _ (by omega)
  have hUS : (Builtin.unsafeString_ #[108, 3] 9 #[.pointer (some ⟨g, 0, none⟩), .int .i64 l.length]).run Tryd.prog w.drew = .ok (.string ⟨l.toArray⟩) (w.drew.freeze ⟨g, 0, none⟩ l.length) := by
   refine Lib.run_unsafeString_row w.drew 108 3 9 5 Tryd.lays169.t127 Tryd.Builder_Extra_169.cellsByte g cur.size (by have hg' : w.drew.heap[g]? = some (.cells cur 5 (0, 0)) := hg; simp [World.shape?, hg']) l h0 (by omega) (by unfold maxLen at hcm; omega) ?_
   intro j x hx
   have := hown.cells (g := g) rfl j (.int .u8 x.toNat) (by simp [Lib.byteCells, hx])
   exact this
  have hbt : (ba l : ByteArray) = ⟨l.toArray⟩ := rfl
  have HF : Aside0 (Chg (fun i => (Value.slice (some ⟨g, 0, none⟩) l.length cap).ownBlock = some i) w (w.drew.freeze ⟨g, 0, none⟩ l.length)) := ⟨freeze_chg w _ ⟨g, 0, none⟩ l.length rfl⟩
  rw [hbt]
  clear hbk hown hg hnc hcm hcs htake hl0 h0 hlb hbt
  have mixed := Tryd.lays169.mixed
  have u84 := Tryd.underlying84
  have u83 := Tryd.underlying83
  have u86 := Tryd.underlying86
  go_enter Tryd.func43, Tryd.ntmps43
  go_wp2
  go_region_o
  all_goals (go_wp2; go_ret; exact ⟨rfl, HF.out⟩)
end Go.Proofs.YtniihjhlkpjnoaaDoor.Given
end
