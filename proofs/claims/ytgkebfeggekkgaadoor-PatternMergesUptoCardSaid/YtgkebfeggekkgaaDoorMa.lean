/- Rows of do-parts as rows of heads (a bool and a slice, as they lie), that may be appended whoever owns what the slices show. -/
import Derived.Test.YtgkebfeggekkgaaDoorJ4
import Derived.Test.YtgkebfeggekkgaaDoorHz
set_option linter.unusedVariables false
set_option linter.unusedSimpArgs false
namespace Go.Proofs.YtgkebfeggekkgaaDoor.Given
open Go.RowKit Go.Proofs.YtgkebfeggekkgaaDoor.PT Go.Proofs.YtgkebfeggekkgaaDoorW.PrintWords Go.Proofs.YtgkebfeggekkgaaDoorW.PrintLast Go.Proofs.YtgkebfeggekkgaaDoorW.PrintMore

/-- a do-part as it lies: whether it is there, and where its actions are -/
structure Head where
  has : Bool
  at' : Option Addr
  len : Nat
  cap : Nat
def kH : Kd Head := (Kd.pair Kd.bool (Kd.scalar (fun h : Option Addr × Nat × Nat => Value.slice h.1 h.2.1 h.2.2) (fun _ => rfl))).iso (fun x => (x.has, x.at', x.len, x.cap))
theorem kH_K {w : World} {x : Head} {cs : List Value} : kH.K w x cs ↔ cs = [.bool x.has, .slice x.at' x.len x.cap] := by
  constructor
  · rintro ⟨c0, c1, rfl, h0, h1⟩
    have h0 : c0 = [Value.bool x.has] := h0
    have h1 : c1 = [Value.slice x.at' x.len x.cap] := h1
    rw [h0, h1]
    rfl
  · rintro rfl
    exact ⟨[_], [_], rfl, rfl, rfl⟩
theorem kH_M {w : World} {base : Nat} {ok : Nat → Prop} (x : Head) : kH.M w base ok x [.bool x.has, .slice x.at' x.len x.cap] := ⟨[_], [_], rfl, rfl, rfl⟩
/-- a head that shows a do-part -/
def Fit (W : World) (h : Head) (x : S39) : Prop := h.has = x.f0 ∧ h.len = x.f1.length ∧ h.len ≤ h.cap ∧ Kd.C kI W h.at' x.f1.length x.f1
theorem Fit.keep {W W' : World} {h : Head} {x : S39} (hf : Fit W h x) (hb : Below W.heap.size W W') : Fit W' h x := ⟨hf.1, hf.2.1, hf.2.2.1, Kd.C_below hf.2.2.2 hb⟩
inductive Fits (W : World) : List Head → List S39 → Prop
  | nil : Fits W [] []
  | cons {h x hs xs} : Fit W h x → Fits W hs xs → Fits W (h :: hs) (x :: xs)
theorem Fits.keep {W W' : World} (hb : Below W.heap.size W W') : ∀ {hs xs}, Fits W hs xs → Fits W' hs xs
  | _, _, .nil => .nil
  | _, _, .cons h r => .cons (h.keep hb) (r.keep hb)
theorem Fits.len {W : World} : ∀ {hs xs}, Fits W hs xs → hs.length = xs.length
  | _, _, .nil => rfl
  | _, _, .cons h r => by simp [r.len]
theorem Fits.app {W : World} : ∀ {hs xs gs ys}, Fits W hs xs → Fits W gs ys → Fits W (hs ++ gs) (xs ++ ys)
  | _, _, _, _, .nil, h => h
  | _, _, _, _, .cons h r, h2 => .cons h (r.app h2)
theorem Fits.take {W : World} : ∀ (k : Nat) {hs xs}, Fits W hs xs → Fits W (hs.take k) (xs.take k)
  | 0, _, _, _ => .nil
  | _ + 1, _, _, .nil => .nil
  | k + 1, _, _, .cons h r => .cons h (r.take k)
theorem Fits.drop {W : World} : ∀ (k : Nat) {hs xs}, Fits W hs xs → Fits W (hs.drop k) (xs.drop k)
  | 0, _, _, h => h
  | _ + 1, _, _, .nil => .nil
  | k + 1, _, _, .cons h r => r.drop k
theorem Fits.at {W : World} : ∀ {hs xs}, Fits W hs xs → ∀ (i : Nat) (h : i < hs.length) (h' : i < xs.length), Fit W hs[i] xs[i]
  | _, _, .cons h r, 0, _, _ => h
  | _, _, .cons h r, i + 1, h1, h2 => r.at i _ _
/-- heads of each do-part -/
theorem heads_of {W : World} : ∀ (xs : List S39) (P : Nat → Head → Prop), (∀ (j : Nat) (x : S39), xs[j]? = some x → ∃ h, Fit W h x ∧ P j h) → ∃ hs, Fits W hs xs ∧ ∀ (j : Nat) (h : Head), hs[j]? = some h → P j h
  | [], P, _ => ⟨[], .nil, fun j h hh => by simp at hh⟩
  | x :: xs, P, H => by
    obtain ⟨h, hf, hp⟩ := H 0 x rfl
    obtain ⟨hs, hfs, hps⟩ := heads_of xs (fun j => P (j + 1)) (fun j y hy => H (j + 1) y (by simpa using hy))
    refine ⟨h :: hs, .cons hf hfs, fun j g hg => ?_⟩
    rcases j with _ | j
    · obtain rfl : h = g := by simpa using hg
      exact hp
    · exact hps j g (by simpa using hg)
theorem C_split {W : World} {A : Option Addr} {n : Nat} {xs : List S39} (hC : Kd.C k39 W A n xs) : ∃ hs, Kd.C kH W A n hs ∧ Fits W hs xs := by
  obtain ⟨h1, h2, h3⟩ := hC
  by_cases hn : 0 < n
  · obtain ⟨ad, e, hc⟩ := h3 hn
    obtain ⟨hs, hf, hp⟩ := heads_of (W := W) xs (fun j h => ∀ (i : Nat) (u : Value), [Value.bool h.has, .slice h.at' h.len h.cap][i]? = some u → W.cell? (ad.add (j * 2 + i)) = some u) (fun j x hx => by
      obtain ⟨c, hl, hk, hx⟩ := hc j x hx
      obtain ⟨c0, c1, rfl, hk0, hk1⟩ := hk
      have hk0 : c0 = [Value.bool x.f0] := hk0
      obtain ⟨B, d, rfl, hd, hC⟩ := hk1
      subst hk0
      exact ⟨⟨x.f0, B, x.f1.length, d⟩, ⟨rfl, rfl, hd, hC⟩, fun i u hu => hx i u hu⟩)
    exact ⟨hs, ⟨hf.len.trans h1, h2, fun _ => ⟨ad, e, fun j h hj => ⟨_, rfl, kH_K.2 rfl, hp j h hj⟩⟩⟩, hf⟩
  · have : xs = [] := List.length_eq_zero_iff.1 (by omega)
    subst this
    exact ⟨[], ⟨h1, h2, fun h => absurd h hn⟩, .nil⟩
theorem C_join {W : World} {A : Option Addr} {n : Nat} {hs : List Head} {xs : List S39} (hC : Kd.C kH W A n hs) (hf : Fits W hs xs) : Kd.C k39 W A n xs := by
  obtain ⟨h1, h2, h3⟩ := hC
  refine ⟨hf.len.symm.trans h1, h2, fun hn => ?_⟩
  obtain ⟨ad, e, hc⟩ := h3 hn
  refine ⟨ad, e, fun j x hj => ?_⟩
  have hjl : j < xs.length := by
    rw [List.getElem?_eq_some_iff] at hj
    exact hj.1
  have hjx : xs[j] = x := by
    rw [List.getElem?_eq_some_iff] at hj
    exact hj.2
  have hjh : j < hs.length := by rw [hf.len]; exact hjl
  obtain ⟨c, hl, hk, hx⟩ := hc j hs[j] (List.getElem?_eq_getElem hjh)
  obtain rfl := kH_K.1 hk
  obtain ⟨e0, e1, e2, e3⟩ := hf.at j hjh hjl
  rw [hjx] at e0 e1 e3
  refine ⟨_, hl, ⟨[_], [_], rfl, ?_, ⟨hs[j].at', hs[j].cap, ?_, ?_, e3⟩⟩, hx⟩
  · show [Value.bool hs[j].has] = [Value.bool x.f0]
    rw [e0]
  · show [Value.slice hs[j].at' hs[j].len hs[j].cap] = [Value.slice hs[j].at' x.f1.length hs[j].cap]
    rw [e1]
  · show x.f1.length ≤ hs[j].cap
    rw [← e1]
    exact e2
/-- the block of what Merge returned -/
def JM (W0 : World) (r : Bool × List Int × Int) (n g : Nat) (B : Option Addr) (d : Nat) (W1 : World) : Prop :=
  Below W0.heap.size W0 W1 ∧ W0.heap.size ≤ g ∧ W1.cell? ⟨g, 0, none⟩ = some (.bool r.1) ∧ W1.cell? ⟨g, 1, none⟩ = some (.slice B n d) ∧ n ≤ d ∧ Kd.C kI W1 B r.2.1.length r.2.1
theorem JM_of {W0 W2 : World} {r : Bool × List Int × Int} {n g : Nat} {B : Option Addr} {d : Nat} (hb : Below W0.heap.size W0 W2) (hg : W0.heap.size ≤ g) (c0 : W2.cell? ⟨g, 0, none⟩ = some (.bool false)) (c1 : W2.cell? ⟨g, 1, none⟩ = some (.slice none 0 0))
    (hd : n ≤ d) (hC : Kd.C kI W2 B r.2.1.length r.2.1) : JM W0 r n g B d ((W2.setCell ⟨g, 0, none⟩ (.bool r.1)).setCell ⟨g, 1, none⟩ (.slice B n d)) := by
  refine ⟨(hb.setCell (p := ⟨g, 0, none⟩) hg _).setCell (p := ⟨g, 1, none⟩) hg _, hg, ?_, ?_, hd, C_set2 hC c0 c1⟩
  · simp [go_sem, c0]
  · simp [go_sem, c1]
theorem JM_new {W0 W2 : World} {r : Bool × List Int × Int} {n : Nat} {B : Option Addr} {d : Nat} (hb : Below W0.heap.size W0 W2) (hd : n ≤ d) (hC : Kd.C kI W2 B r.2.1.length r.2.1) : JM W0 r n W2.heap.size B d (W2.alloc (.cells #[.bool r.1, .slice B n d] 39)) :=
  ⟨hb.alloc hb.size _, hb.size, by simp [go_sem], by simp [go_sem], hd, Kd.C_alloc hC _⟩
/-- a part of the code that ends in one of several ways, alike but for what it found -/
theorem wp_join {P : Program} {c : Code} {Q : Exit → Act → World → Prop} {α β γ : Type} {F : α → β → γ → Act} {J : α → β → γ → World → Prop} {a : Act} {w : World} (h1 : c.wp P (fun e a' w' => e = .normal ∧ ∃ x y z, a' = F x y z ∧ J x y z w') a w) (h2 : ∀ x y z w', J x y z w' → Q .normal (F x y z) w') : c.wp P Q a w :=
  Code.wp_mono (fun e a' w' ⟨he, x, y, z, ha, hj⟩ => by subst he; subst ha; exact h2 x y z w' hj) h1
theorem sliceD_low {ad : Addr} {len c i : Nat} {j : Int} (hj : j = i) (hi : i ≤ len) (hc : len ≤ c) (W : World) : (Instr.sliceAt 36 (.slice (some ad) len c) (some (.int .i64 j)) none none).run Tryd.prog W = .ok (.slice (if c = i then some ad else some (ad.add (i * 2))) (len - i) (c - i)) W := by
  have hu36 := Tryd.underlying36
  subst hj
  go_simp
theorem sliceD_high {ad : Addr} {len c i : Nat} (hi : i ≤ len) (hc : len ≤ c) (W : World) : (Instr.sliceAt 36 (.slice (some ad) len c) none (some (.int .i64 i)) none).run Tryd.prog W = .ok (.slice (some ad) i c) W := by
  have hu36 := Tryd.underlying36
  go_simp
  intro h
  omega
theorem info39 : (Tryd.prog.info? 39).map (fun i => (i.zero, i.size, i.bytes)) = some (some (.agg #[.bool false, .slice none 0 0]), 2, 32) := by kernel_rfl
theorem kH_take {W : World} {A : Option Addr} {n k : Nat} {hs : List Head} (h : Kd.C kH W A n hs) (hk : k ≤ n) : Kd.C kH W A k (hs.take k) := by
  have e : hs.length = n := h.1
  subst e
  have := Kd.C_take h hk
  rw [List.length_take, Nat.min_eq_left hk] at this
  exact this
theorem kH_drop {W : World} {ad : Addr} {n k c : Nat} {hs : List Head} (h : Kd.C kH W (some ad) n hs) (hk : k ≤ n) (hc : n ≤ c) : Kd.C kH W (if c = k then some ad else some (ad.add (k * 2))) (n - k) (hs.drop k) := by
  have e : hs.length = n := h.1
  subst e
  have := Kd.C_drop h hk hc
  rw [List.length_drop] at this
  exact this
theorem small_parts {ls : List S39} (hs : actsSmall ls = true) (i j : Nat) (m : List S39) (hm : actsSmall m = true) : actsSmall (ls.take i ++ (m ++ ls.drop j)) = true := by
  unfold actsSmall at hs hm ⊢
  rw [List.all_eq_true] at hs hm ⊢
  intro d hd
  rcases List.mem_append.1 hd with h | h
  · exact hs d (List.mem_of_mem_take h)
  · rcases List.mem_append.1 h with h | h
    · exact hm d h
    · exact hs d (List.mem_of_mem_drop h)
/-- the walk of the parts with two of them merged, and with one left out -/
theorem walk_one {ls : List S39} (k : Nat) (hk : k + 1 < ls.length) (hs : actsSmall ls = true) {W : World} {hs' : List Head} (hf : Fits W hs' ls) (h0 : (walkF ls).2 = 0) (hm : (mergeF ls[k] ls[k + 1]).2.2 = 0) {l : List Int} (hl : (mergeF ls[k] ls[k + 1]).2.1 = l)
    {n d : Nat} {B : Option Addr} (hn : l.length = n) (hd : n ≤ d) (hC : Kd.C kI W B l.length l) {gs : List Head} (hg : gs = (([] ++ hs'.take k) ++ [(⟨true, B, n, d⟩ : Head)]) ++ hs'.drop (k + 2)) {A6 : Option Addr} {c6 : Nat} (h6 : Kd.C kH W A6 gs.length gs) (hc6 : gs.length ≤ c6) :
    Calls Tryd.prog 24 #[.slice A6 gs.length c6] W (GotZ W (walkF ls).1 0) := by
  have hft : Fits W gs (ls.take k ++ ([⟨true, l⟩] ++ ls.drop (k + 2))) := by
    rw [hg, List.nil_append, List.append_assoc]
    exact (hf.take k).app (Fits.app (.cons ⟨rfl, hn.symm, hd, hC⟩ .nil) (hf.drop (k + 2)))
  have hj := C_join h6 hft
  have e := hft.len
  rw [e] at hj hc6 ⊢
  have hl2 : l.length ≤ 2000 := by rw [← hl]; exact mergeF_len _ _
  have hw := walk_got A6 c6 _ W hj hc6 (small_parts hs k (k + 2) [⟨true, l⟩] (by show (decide (l.length ≤ 1073741823) && true) = true; rw [decide_eq_true (by omega)]; rfl))
  have hwm := walk_merged hk h0 hm
  rw [hl] at hwm
  rw [hwm, h0] at hw
  exact hw
theorem walk_less {ls : List S39} (k : Nat) (hs : actsSmall ls = true) {W : World} {hs' : List Head} (hf : Fits W hs' ls) {gs : List Head} (hg : gs = ([] ++ hs'.take k) ++ hs'.drop (k + 1)) {A6 : Option Addr} {c6 : Nat} (h6 : Kd.C kH W A6 gs.length gs) (hc6 : gs.length ≤ c6) :
    Calls Tryd.prog 24 #[.slice A6 gs.length c6] W (GotZ W (walkF (ls.take k ++ ls.drop (k + 1))).1 (walkF (ls.take k ++ ls.drop (k + 1))).2) := by
  have hft : Fits W gs (ls.take k ++ ls.drop (k + 1)) := by
    rw [hg, List.nil_append]
    exact (hf.take k).app (hf.drop (k + 1))
  have hj := C_join h6 hft
  have e := hft.len
  rw [e] at hj hc6 ⊢
  exact walk_got A6 c6 _ W hj hc6 (small_parts hs k (k + 1) [] rfl)
end Go.Proofs.YtgkebfeggekkgaaDoor.Given
