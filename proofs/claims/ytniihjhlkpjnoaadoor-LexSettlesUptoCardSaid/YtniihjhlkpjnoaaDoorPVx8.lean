-- Written by a program of mine (wip/print_given.sh: the kit's print, changed so that some functions are given by contracts).
-- (made short by wip/short.py)
import Derived.Test.YtniihjhlkpjnoaaDoorJ2
import Derived.Test.YtniihjhlkpjnoaaDoorJ12
import Derived.Test.YtniihjhlkpjnoaaDoorPVx6
import Derived.Test.YtniihjhlkpjnoaaDoorJ11
import Derived.Test.YtniihjhlkpjnoaaDoorLy
import Derived.Test.YtniihjhlkpjnoaaDoorLz
namespace Go.Proofs.YtniihjhlkpjnoaaDoor.PV
open Go.RowKit Go.Proofs.YtniihjhlkpjnoaaDoor.Given Go.Proofs.YtniihjhlkpjnoaaDoorW.PrintWords Go.Proofs.YtniihjhlkpjnoaaDoorW.PrintLast Go.Proofs.YtniihjhlkpjnoaaDoorW.PrintMore
attribute [local go_sem] max2_int min2_int max_two min_two max_three min_three max_four min_four   -- for this text's walks alone
set_option linter.unusedVariables false
set_option linter.unusedSimpArgs false

attribute [local go_sem high] eqA29 eqA40
/-! ### mjolnerlaw04_sane: function 10 -/
def mjolnerlaw04_sane.j0 : Nat → List (S42) → ByteArray → List (S40) → List (S42) → List (S42) → List (S42) → Bool → List (S42) → Int → Int → ByteArray → Bool → Int → ByteArray → Int → Int → ByteArray → Int → Option (Bool)
 | 0, _, _, _, _, _, _, _, _, _, _, _, _, _, _, _, _, _, _ => none
 | k + 1, x1, x7, x10, x13, x17, x21, x24, x26, x27, x28, x31, x136, x167000, x167001, x167002, x176000, x176001, x176002 => if x136 = true then (some false) else (if (x1.length : Int) = 5 then (if (x10.length : Int) = 4 then (if (x13.length : Int) = 1 then (if (x17.length : Int) = 2 then (if (x21.length : Int) = 1 then (if (x26.length : Int) = 3 then (if x24 = true then (if x27 = 1 then (if x28 = 1 then (if 1 < (x1.length : Int) then (if ((rd_T42 x1 1).f1).toList = ([58, 58, 60] : List UInt8) then (if 3 < (x1.length : Int) then (if ((rd_T42 x1 3).f0) = 4 then (if ((rd_T42 x1 3).f4) = 12 then (if x7.toList = ([97, 32, 32, 32, 10, 32, 32, 99] : List UInt8) then (if 1 < (x10.length : Int) then (if (((rd_T40 x10 1).f0) == 2 && (((rd_T40 x10 1).f1) == 1 && (((rd_T40 x10 1).f2) == 6))) = true then (if x31.toList = ([120, 49, 32, 58, 58, 60, 32, 40, 35, 32, 49, 46, 53, 101, 50, 32, 35, 41] : List UInt8) then (if (x167000 == 3 && (x167001.toList == ([49, 46] : List UInt8) && (x167002 == 1))) = true then (if (x176000 == 5 && (x176001.toList == ([120] : List UInt8) && (x176002 == 3))) = true then (if 1 < (x17.length : Int) then (if ((rd_T42 x17 1).f3) = 4 then (if 0 < (x21.length : Int) then (if ((rd_T42 x21 0).f3) = 5 then (if 1 < (x26.length : Int) then (some (((rd_T42 x26 1).f1).toList == ([120] : List UInt8))) else (none)) else (some false)) else (none)) else (some false)) else (none)) else (some false)) else (some false)) else (some false)) else (some false)) else (none)) else (some false)) else (some false)) else (some false)) else (none)) else (some false)) else (none)) else (some false)) else (some false)) else (some false)) else (some false)) else (some false)) else (some false)) else (some false)) else (some false)) else (some false))
def mjolnerlaw04_sane.f (k : Nat)  : Option (Bool) := (lex_Lex.f (⟨#[120, 49, 58, 58, 60, 40, 35, 49, 46, 53, 101, 50, 35, 41]⟩ : ByteArray)).bind fun bt140 => ((lex_Lex.f (⟨#[59, 32, 49, 50, 97]⟩ : ByteArray)).bind fun bt145 => ((lex_Veil.f (⟨#[97, 40, 42, 98, 10, 42, 41, 99]⟩ : ByteArray)).bind fun bt150 => ((lex_Spans.f (⟨#[97, 40, 42, 98, 42, 41, 32, 99]⟩ : ByteArray)).bind fun bt153 => ((lex_Feed.f 0 (⟨#[]⟩ : ByteArray) 0 (⟨#[97, 98, 32, 49, 46]⟩ : ByteArray)).bind fun bt158 => ((lex_Feed.f bt158.2.1 bt158.2.2.1 bt158.2.2.2.1 (⟨#[120]⟩ : ByteArray)).bind fun bt167 => ((lex_Finish.f bt167.2.1 bt167.2.2.1 bt167.2.2.2.1).bind fun bt176 => ((lex_Touch.f k 3 (⟨#[49]⟩ : ByteArray) 0 0 0 7 (⟨#[46]⟩ : ByteArray) 0 0 0).bind fun bt181 => ((lex_Again.f (⟨#[97, 98, 32, 99, 100, 32, 101, 102]⟩ : ByteArray) 3 2 (⟨#[120]⟩ : ByteArray)).bind fun bt183 => ((lex_Print.f bt140.1).bind fun bt190 => (if bt140.2.1 = 0 then (if bt145.2.1 = 7 then (if bt145.2.2 = 2 then (if bt150.2.1 = 0 then (if bt153.2.1 = 0 then (if bt158.2.2.2.2.1 = 0 then (if bt167.2.2.2.2.1 = 0 then (if bt176.2.1 = 0 then (if bt181.2 = 0 then (if bt183.2.2.2.1 = 0 then (mjolnerlaw04_sane.j0 k bt140.1 bt150.1 bt153.1 bt158.1 bt167.1 bt176.1 bt181.1 bt183.1 bt183.2.1 bt183.2.2.1 bt190.1 (bt190.2.1 != 0) bt158.2.1 bt158.2.2.1 bt158.2.2.2.1 bt167.2.1 bt167.2.2.1 bt167.2.2.2.1) else (mjolnerlaw04_sane.j0 k bt140.1 bt150.1 bt153.1 bt158.1 bt167.1 bt176.1 bt181.1 bt183.1 bt183.2.1 bt183.2.2.1 bt190.1 true bt158.2.1 bt158.2.2.1 bt158.2.2.2.1 bt167.2.1 bt167.2.2.1 bt167.2.2.2.1)) else (mjolnerlaw04_sane.j0 k bt140.1 bt150.1 bt153.1 bt158.1 bt167.1 bt176.1 bt181.1 bt183.1 bt183.2.1 bt183.2.2.1 bt190.1 true bt158.2.1 bt158.2.2.1 bt158.2.2.2.1 bt167.2.1 bt167.2.2.1 bt167.2.2.2.1)) else (mjolnerlaw04_sane.j0 k bt140.1 bt150.1 bt153.1 bt158.1 bt167.1 bt176.1 bt181.1 bt183.1 bt183.2.1 bt183.2.2.1 bt190.1 true bt158.2.1 bt158.2.2.1 bt158.2.2.2.1 bt167.2.1 bt167.2.2.1 bt167.2.2.2.1)) else (mjolnerlaw04_sane.j0 k bt140.1 bt150.1 bt153.1 bt158.1 bt167.1 bt176.1 bt181.1 bt183.1 bt183.2.1 bt183.2.2.1 bt190.1 true bt158.2.1 bt158.2.2.1 bt158.2.2.2.1 bt167.2.1 bt167.2.2.1 bt167.2.2.2.1)) else (mjolnerlaw04_sane.j0 k bt140.1 bt150.1 bt153.1 bt158.1 bt167.1 bt176.1 bt181.1 bt183.1 bt183.2.1 bt183.2.2.1 bt190.1 true bt158.2.1 bt158.2.2.1 bt158.2.2.2.1 bt167.2.1 bt167.2.2.1 bt167.2.2.2.1)) else (mjolnerlaw04_sane.j0 k bt140.1 bt150.1 bt153.1 bt158.1 bt167.1 bt176.1 bt181.1 bt183.1 bt183.2.1 bt183.2.2.1 bt190.1 true bt158.2.1 bt158.2.2.1 bt158.2.2.2.1 bt167.2.1 bt167.2.2.1 bt167.2.2.2.1)) else (mjolnerlaw04_sane.j0 k bt140.1 bt150.1 bt153.1 bt158.1 bt167.1 bt176.1 bt181.1 bt183.1 bt183.2.1 bt183.2.2.1 bt190.1 true bt158.2.1 bt158.2.2.1 bt158.2.2.2.1 bt167.2.1 bt167.2.2.1 bt167.2.2.2.1)) else (mjolnerlaw04_sane.j0 k bt140.1 bt150.1 bt153.1 bt158.1 bt167.1 bt176.1 bt181.1 bt183.1 bt183.2.1 bt183.2.2.1 bt190.1 true bt158.2.1 bt158.2.2.1 bt158.2.2.2.1 bt167.2.1 bt167.2.2.1 bt167.2.2.2.1)) else (mjolnerlaw04_sane.j0 k bt140.1 bt150.1 bt153.1 bt158.1 bt167.1 bt176.1 bt181.1 bt183.1 bt183.2.1 bt183.2.2.1 bt190.1 true bt158.2.1 bt158.2.2.1 bt158.2.2.2.1 bt167.2.1 bt167.2.2.1 bt167.2.2.2.1)) else (mjolnerlaw04_sane.j0 k bt140.1 bt150.1 bt153.1 bt158.1 bt167.1 bt176.1 bt181.1 bt183.1 bt183.2.1 bt183.2.2.1 bt190.1 true bt158.2.1 bt158.2.2.1 bt158.2.2.2.1 bt167.2.1 bt167.2.2.1 bt167.2.2.2.1)))))))))))
theorem mjolnerlaw04_sane.mono_l : ∀ k, (∀ y0 y1 y2 y3 y4 y5 y6 y7 y8 y9 y10 y11 y12 y13 y14 y15 y16 y17, LeO (mjolnerlaw04_sane.j0 k y0 y1 y2 y3 y4 y5 y6 y7 y8 y9 y10 y11 y12 y13 y14 y15 y16 y17) (mjolnerlaw04_sane.j0 (k + 1) y0 y1 y2 y3 y4 y5 y6 y7 y8 y9 y10 y11 y12 y13 y14 y15 y16 y17))
 | 0 => fun _ _ _ _ _ _ _ _ _ _ _ _ _ _ _ _ _ _ r h => by simp [mjolnerlaw04_sane.j0] at h
 | k + 1 => by
  have ih0 := mjolnerlaw04_sane.mono_l k
  ·intro y0 y1 y2 y3 y4 y5 y6 y7 y8 y9 y10 y11 y12 y13 y14 y15 y16 y17
   unfold mjolnerlaw04_sane.j0
   repeat' first
   | (with_reducible exact ih0 _ _ _ _ _ _ _ _ _ _ _ _ _ _ _ _ _ _)
   | (with_reducible exact lex_Touch.mono _ _ _ _ _ _ _ _ _ _ _)
   | (with_reducible exact LeO.refl _)
   | (with_reducible exact LeO.none _)
   | (with_reducible refine LeO.ite ?_ ?_)
   | (with_reducible refine LeO.bind ?_ (fun _ => ?_))
   | exact ih0 _ _ _ _ _ _ _ _ _ _ _ _ _ _ _ _ _ _
   | exact lex_Touch.mono _ _ _ _ _ _ _ _ _ _ _
   | exact LeO.none _
   | refine LeO.ite ?_ ?_
   | refine LeO.bind ?_ (fun _ => ?_)
theorem mjolnerlaw04_sane.mono : ∀ k, LeO (mjolnerlaw04_sane.f k ) (mjolnerlaw04_sane.f (k + 1) ) := by
 intro  k
 have ih0 := mjolnerlaw04_sane.mono_l k
 unfold mjolnerlaw04_sane.f
 repeat' first
   | (with_reducible exact ih0 _ _ _ _ _ _ _ _ _ _ _ _ _ _ _ _ _ _)
   | (with_reducible exact lex_Touch.mono _ _ _ _ _ _ _ _ _ _ _)
   | (with_reducible exact LeO.refl _)
   | (with_reducible exact LeO.none _)
   | (with_reducible refine LeO.ite ?_ ?_)
   | (with_reducible refine LeO.bind ?_ (fun _ => ?_))
   | exact ih0 _ _ _ _ _ _ _ _ _ _ _ _ _ _ _ _ _ _
   | exact lex_Touch.mono _ _ _ _ _ _ _ _ _ _ _
   | exact LeO.none _
   | refine LeO.ite ?_ ?_
   | refine LeO.bind ?_ (fun _ => ?_)
theorem mjolnerlaw04_sane.j0_true : ∀ k y0 y1 y2 y3 y4 y5 y6 y7 y8 y9 y10 y12 y13 y14 y15 y16 y17, mjolnerlaw04_sane.j0 k y0 y1 y2 y3 y4 y5 y6 y7 y8 y9 y10 true y12 y13 y14 y15 y16 y17 ≠ some true := by
 intro k y0 y1 y2 y3 y4 y5 y6 y7 y8 y9 y10 y12 y13 y14 y15 y16 y17
 cases k with
 | zero => rw [mjolnerlaw04_sane.j0]; intro h; cases h
 | succ k => rw [mjolnerlaw04_sane.j0, if_pos rfl]; intro h; cases h
set_option maxHeartbeats 8000000 in
set_option maxRecDepth 100000 in
theorem mjolnerlaw04_sane.callsT (k : Nat)  (r : Bool) (w : World) (hG : LaidG w) (h : mjolnerlaw04_sane.f k  = some r) (hr : r = true) :
  Calls Tryd.prog 10 #[] w fun e w' => e = .returned (.bool r) ∧ Below w.heap.size w w' := by
 have hu29 := Tryd.underlying29
 have hu42 := Tryd.underlying42
 have hu52 := Tryd.underlying52
 have hu40 := Tryd.underlying40
 have HB := Aside0.mk (Below.refl w.heap.size w)
 have HG := Aside0.mk (LaidG.keep hG)
 clear hG
 have HRT := Aside0.mk hr
 clear hr
 have H : ((lex_Lex.f (⟨#[120, 49, 58, 58, 60, 40, 35, 49, 46, 53, 101, 50, 35, 41]⟩ : ByteArray)).bind fun bt140 => ((lex_Lex.f (⟨#[59, 32, 49, 50, 97]⟩ : ByteArray)).bind fun bt145 => ((lex_Veil.f (⟨#[97, 40, 42, 98, 10, 42, 41, 99]⟩ : ByteArray)).bind fun bt150 => ((lex_Spans.f (⟨#[97, 40, 42, 98, 42, 41, 32, 99]⟩ : ByteArray)).bind fun bt153 => ((lex_Feed.f 0 (⟨#[]⟩ : ByteArray) 0 (⟨#[97, 98, 32, 49, 46]⟩ : ByteArray)).bind fun bt158 => ((lex_Feed.f bt158.2.1 bt158.2.2.1 bt158.2.2.2.1 (⟨#[120]⟩ : ByteArray)).bind fun bt167 => ((lex_Finish.f bt167.2.1 bt167.2.2.1 bt167.2.2.2.1).bind fun bt176 => ((lex_Touch.f k 3 (⟨#[49]⟩ : ByteArray) 0 0 0 7 (⟨#[46]⟩ : ByteArray) 0 0 0).bind fun bt181 => ((lex_Again.f (⟨#[97, 98, 32, 99, 100, 32, 101, 102]⟩ : ByteArray) 3 2 (⟨#[120]⟩ : ByteArray)).bind fun bt183 => ((lex_Print.f bt140.1).bind fun bt190 => (if bt140.2.1 = 0 then (if bt145.2.1 = 7 then (if bt145.2.2 = 2 then (if bt150.2.1 = 0 then (if bt153.2.1 = 0 then (if bt158.2.2.2.2.1 = 0 then (if bt167.2.2.2.2.1 = 0 then (if bt176.2.1 = 0 then (if bt181.2 = 0 then (if bt183.2.2.2.1 = 0 then (mjolnerlaw04_sane.j0 k bt140.1 bt150.1 bt153.1 bt158.1 bt167.1 bt176.1 bt181.1 bt183.1 bt183.2.1 bt183.2.2.1 bt190.1 (bt190.2.1 != 0) bt158.2.1 bt158.2.2.1 bt158.2.2.2.1 bt167.2.1 bt167.2.2.1 bt167.2.2.2.1) else (mjolnerlaw04_sane.j0 k bt140.1 bt150.1 bt153.1 bt158.1 bt167.1 bt176.1 bt181.1 bt183.1 bt183.2.1 bt183.2.2.1 bt190.1 true bt158.2.1 bt158.2.2.1 bt158.2.2.2.1 bt167.2.1 bt167.2.2.1 bt167.2.2.2.1)) else (mjolnerlaw04_sane.j0 k bt140.1 bt150.1 bt153.1 bt158.1 bt167.1 bt176.1 bt181.1 bt183.1 bt183.2.1 bt183.2.2.1 bt190.1 true bt158.2.1 bt158.2.2.1 bt158.2.2.2.1 bt167.2.1 bt167.2.2.1 bt167.2.2.2.1)) else (mjolnerlaw04_sane.j0 k bt140.1 bt150.1 bt153.1 bt158.1 bt167.1 bt176.1 bt181.1 bt183.1 bt183.2.1 bt183.2.2.1 bt190.1 true bt158.2.1 bt158.2.2.1 bt158.2.2.2.1 bt167.2.1 bt167.2.2.1 bt167.2.2.2.1)) else (mjolnerlaw04_sane.j0 k bt140.1 bt150.1 bt153.1 bt158.1 bt167.1 bt176.1 bt181.1 bt183.1 bt183.2.1 bt183.2.2.1 bt190.1 true bt158.2.1 bt158.2.2.1 bt158.2.2.2.1 bt167.2.1 bt167.2.2.1 bt167.2.2.2.1)) else (mjolnerlaw04_sane.j0 k bt140.1 bt150.1 bt153.1 bt158.1 bt167.1 bt176.1 bt181.1 bt183.1 bt183.2.1 bt183.2.2.1 bt190.1 true bt158.2.1 bt158.2.2.1 bt158.2.2.2.1 bt167.2.1 bt167.2.2.1 bt167.2.2.2.1)) else (mjolnerlaw04_sane.j0 k bt140.1 bt150.1 bt153.1 bt158.1 bt167.1 bt176.1 bt181.1 bt183.1 bt183.2.1 bt183.2.2.1 bt190.1 true bt158.2.1 bt158.2.2.1 bt158.2.2.2.1 bt167.2.1 bt167.2.2.1 bt167.2.2.2.1)) else (mjolnerlaw04_sane.j0 k bt140.1 bt150.1 bt153.1 bt158.1 bt167.1 bt176.1 bt181.1 bt183.1 bt183.2.1 bt183.2.2.1 bt190.1 true bt158.2.1 bt158.2.2.1 bt158.2.2.2.1 bt167.2.1 bt167.2.2.1 bt167.2.2.2.1)) else (mjolnerlaw04_sane.j0 k bt140.1 bt150.1 bt153.1 bt158.1 bt167.1 bt176.1 bt181.1 bt183.1 bt183.2.1 bt183.2.2.1 bt190.1 true bt158.2.1 bt158.2.2.1 bt158.2.2.2.1 bt167.2.1 bt167.2.2.1 bt167.2.2.2.1)) else (mjolnerlaw04_sane.j0 k bt140.1 bt150.1 bt153.1 bt158.1 bt167.1 bt176.1 bt181.1 bt183.1 bt183.2.1 bt183.2.2.1 bt190.1 true bt158.2.1 bt158.2.2.1 bt158.2.2.2.1 bt167.2.1 bt167.2.2.1 bt167.2.2.2.1)) else (mjolnerlaw04_sane.j0 k bt140.1 bt150.1 bt153.1 bt158.1 bt167.1 bt176.1 bt181.1 bt183.1 bt183.2.1 bt183.2.2.1 bt190.1 true bt158.2.1 bt158.2.2.1 bt158.2.2.2.1 bt167.2.1 bt167.2.2.1 bt167.2.2.2.1)))))))))))) = some r := h
 clear h
 replace H := Option.bind_eq_some_iff.mp H
 obtain ⟨⟨t140, t141, t142⟩, A10, H⟩ := H
 replace H : ((lex_Lex.f (⟨#[59, 32, 49, 50, 97]⟩ : ByteArray)).bind fun bt145 => ((lex_Veil.f (⟨#[97, 40, 42, 98, 10, 42, 41, 99]⟩ : ByteArray)).bind fun bt150 => ((lex_Spans.f (⟨#[97, 40, 42, 98, 42, 41, 32, 99]⟩ : ByteArray)).bind fun bt153 => ((lex_Feed.f 0 (⟨#[]⟩ : ByteArray) 0 (⟨#[97, 98, 32, 49, 46]⟩ : ByteArray)).bind fun bt158 => ((lex_Feed.f bt158.2.1 bt158.2.2.1 bt158.2.2.2.1 (⟨#[120]⟩ : ByteArray)).bind fun bt167 => ((lex_Finish.f bt167.2.1 bt167.2.2.1 bt167.2.2.2.1).bind fun bt176 => ((lex_Touch.f k 3 (⟨#[49]⟩ : ByteArray) 0 0 0 7 (⟨#[46]⟩ : ByteArray) 0 0 0).bind fun bt181 => ((lex_Again.f (⟨#[97, 98, 32, 99, 100, 32, 101, 102]⟩ : ByteArray) 3 2 (⟨#[120]⟩ : ByteArray)).bind fun bt183 => ((lex_Print.f t140).bind fun bt190 => (if t141 = 0 then (if bt145.2.1 = 7 then (if bt145.2.2 = 2 then (if bt150.2.1 = 0 then (if bt153.2.1 = 0 then (if bt158.2.2.2.2.1 = 0 then (if bt167.2.2.2.2.1 = 0 then (if bt176.2.1 = 0 then (if bt181.2 = 0 then (if bt183.2.2.2.1 = 0 then (mjolnerlaw04_sane.j0 k t140 bt150.1 bt153.1 bt158.1 bt167.1 bt176.1 bt181.1 bt183.1 bt183.2.1 bt183.2.2.1 bt190.1 (bt190.2.1 != 0) bt158.2.1 bt158.2.2.1 bt158.2.2.2.1 bt167.2.1 bt167.2.2.1 bt167.2.2.2.1) else (mjolnerlaw04_sane.j0 k t140 bt150.1 bt153.1 bt158.1 bt167.1 bt176.1 bt181.1 bt183.1 bt183.2.1 bt183.2.2.1 bt190.1 true bt158.2.1 bt158.2.2.1 bt158.2.2.2.1 bt167.2.1 bt167.2.2.1 bt167.2.2.2.1)) else (mjolnerlaw04_sane.j0 k t140 bt150.1 bt153.1 bt158.1 bt167.1 bt176.1 bt181.1 bt183.1 bt183.2.1 bt183.2.2.1 bt190.1 true bt158.2.1 bt158.2.2.1 bt158.2.2.2.1 bt167.2.1 bt167.2.2.1 bt167.2.2.2.1)) else (mjolnerlaw04_sane.j0 k t140 bt150.1 bt153.1 bt158.1 bt167.1 bt176.1 bt181.1 bt183.1 bt183.2.1 bt183.2.2.1 bt190.1 true bt158.2.1 bt158.2.2.1 bt158.2.2.2.1 bt167.2.1 bt167.2.2.1 bt167.2.2.2.1)) else (mjolnerlaw04_sane.j0 k t140 bt150.1 bt153.1 bt158.1 bt167.1 bt176.1 bt181.1 bt183.1 bt183.2.1 bt183.2.2.1 bt190.1 true bt158.2.1 bt158.2.2.1 bt158.2.2.2.1 bt167.2.1 bt167.2.2.1 bt167.2.2.2.1)) else (mjolnerlaw04_sane.j0 k t140 bt150.1 bt153.1 bt158.1 bt167.1 bt176.1 bt181.1 bt183.1 bt183.2.1 bt183.2.2.1 bt190.1 true bt158.2.1 bt158.2.2.1 bt158.2.2.2.1 bt167.2.1 bt167.2.2.1 bt167.2.2.2.1)) else (mjolnerlaw04_sane.j0 k t140 bt150.1 bt153.1 bt158.1 bt167.1 bt176.1 bt181.1 bt183.1 bt183.2.1 bt183.2.2.1 bt190.1 true bt158.2.1 bt158.2.2.1 bt158.2.2.2.1 bt167.2.1 bt167.2.2.1 bt167.2.2.2.1)) else (mjolnerlaw04_sane.j0 k t140 bt150.1 bt153.1 bt158.1 bt167.1 bt176.1 bt181.1 bt183.1 bt183.2.1 bt183.2.2.1 bt190.1 true bt158.2.1 bt158.2.2.1 bt158.2.2.2.1 bt167.2.1 bt167.2.2.1 bt167.2.2.2.1)) else (mjolnerlaw04_sane.j0 k t140 bt150.1 bt153.1 bt158.1 bt167.1 bt176.1 bt181.1 bt183.1 bt183.2.1 bt183.2.2.1 bt190.1 true bt158.2.1 bt158.2.2.1 bt158.2.2.2.1 bt167.2.1 bt167.2.2.1 bt167.2.2.2.1)) else (mjolnerlaw04_sane.j0 k t140 bt150.1 bt153.1 bt158.1 bt167.1 bt176.1 bt181.1 bt183.1 bt183.2.1 bt183.2.2.1 bt190.1 true bt158.2.1 bt158.2.2.1 bt158.2.2.2.1 bt167.2.1 bt167.2.2.1 bt167.2.2.2.1)) else (mjolnerlaw04_sane.j0 k t140 bt150.1 bt153.1 bt158.1 bt167.1 bt176.1 bt181.1 bt183.1 bt183.2.1 bt183.2.2.1 bt190.1 true bt158.2.1 bt158.2.2.1 bt158.2.2.2.1 bt167.2.1 bt167.2.2.1 bt167.2.2.2.1))))))))))) = some r := H
 have A1 := Aside0.mk A10
 clear A10
 replace H := Option.bind_eq_some_iff.mp H
 obtain ⟨⟨t145, t146, t147⟩, A20, H⟩ := H
 replace H : ((lex_Veil.f (⟨#[97, 40, 42, 98, 10, 42, 41, 99]⟩ : ByteArray)).bind fun bt150 => ((lex_Spans.f (⟨#[97, 40, 42, 98, 42, 41, 32, 99]⟩ : ByteArray)).bind fun bt153 => ((lex_Feed.f 0 (⟨#[]⟩ : ByteArray) 0 (⟨#[97, 98, 32, 49, 46]⟩ : ByteArray)).bind fun bt158 => ((lex_Feed.f bt158.2.1 bt158.2.2.1 bt158.2.2.2.1 (⟨#[120]⟩ : ByteArray)).bind fun bt167 => ((lex_Finish.f bt167.2.1 bt167.2.2.1 bt167.2.2.2.1).bind fun bt176 => ((lex_Touch.f k 3 (⟨#[49]⟩ : ByteArray) 0 0 0 7 (⟨#[46]⟩ : ByteArray) 0 0 0).bind fun bt181 => ((lex_Again.f (⟨#[97, 98, 32, 99, 100, 32, 101, 102]⟩ : ByteArray) 3 2 (⟨#[120]⟩ : ByteArray)).bind fun bt183 => ((lex_Print.f t140).bind fun bt190 => (if t141 = 0 then (if t146 = 7 then (if t147 = 2 then (if bt150.2.1 = 0 then (if bt153.2.1 = 0 then (if bt158.2.2.2.2.1 = 0 then (if bt167.2.2.2.2.1 = 0 then (if bt176.2.1 = 0 then (if bt181.2 = 0 then (if bt183.2.2.2.1 = 0 then (mjolnerlaw04_sane.j0 k t140 bt150.1 bt153.1 bt158.1 bt167.1 bt176.1 bt181.1 bt183.1 bt183.2.1 bt183.2.2.1 bt190.1 (bt190.2.1 != 0) bt158.2.1 bt158.2.2.1 bt158.2.2.2.1 bt167.2.1 bt167.2.2.1 bt167.2.2.2.1) else (mjolnerlaw04_sane.j0 k t140 bt150.1 bt153.1 bt158.1 bt167.1 bt176.1 bt181.1 bt183.1 bt183.2.1 bt183.2.2.1 bt190.1 true bt158.2.1 bt158.2.2.1 bt158.2.2.2.1 bt167.2.1 bt167.2.2.1 bt167.2.2.2.1)) else (mjolnerlaw04_sane.j0 k t140 bt150.1 bt153.1 bt158.1 bt167.1 bt176.1 bt181.1 bt183.1 bt183.2.1 bt183.2.2.1 bt190.1 true bt158.2.1 bt158.2.2.1 bt158.2.2.2.1 bt167.2.1 bt167.2.2.1 bt167.2.2.2.1)) else (mjolnerlaw04_sane.j0 k t140 bt150.1 bt153.1 bt158.1 bt167.1 bt176.1 bt181.1 bt183.1 bt183.2.1 bt183.2.2.1 bt190.1 true bt158.2.1 bt158.2.2.1 bt158.2.2.2.1 bt167.2.1 bt167.2.2.1 bt167.2.2.2.1)) else (mjolnerlaw04_sane.j0 k t140 bt150.1 bt153.1 bt158.1 bt167.1 bt176.1 bt181.1 bt183.1 bt183.2.1 bt183.2.2.1 bt190.1 true bt158.2.1 bt158.2.2.1 bt158.2.2.2.1 bt167.2.1 bt167.2.2.1 bt167.2.2.2.1)) else (mjolnerlaw04_sane.j0 k t140 bt150.1 bt153.1 bt158.1 bt167.1 bt176.1 bt181.1 bt183.1 bt183.2.1 bt183.2.2.1 bt190.1 true bt158.2.1 bt158.2.2.1 bt158.2.2.2.1 bt167.2.1 bt167.2.2.1 bt167.2.2.2.1)) else (mjolnerlaw04_sane.j0 k t140 bt150.1 bt153.1 bt158.1 bt167.1 bt176.1 bt181.1 bt183.1 bt183.2.1 bt183.2.2.1 bt190.1 true bt158.2.1 bt158.2.2.1 bt158.2.2.2.1 bt167.2.1 bt167.2.2.1 bt167.2.2.2.1)) else (mjolnerlaw04_sane.j0 k t140 bt150.1 bt153.1 bt158.1 bt167.1 bt176.1 bt181.1 bt183.1 bt183.2.1 bt183.2.2.1 bt190.1 true bt158.2.1 bt158.2.2.1 bt158.2.2.2.1 bt167.2.1 bt167.2.2.1 bt167.2.2.2.1)) else (mjolnerlaw04_sane.j0 k t140 bt150.1 bt153.1 bt158.1 bt167.1 bt176.1 bt181.1 bt183.1 bt183.2.1 bt183.2.2.1 bt190.1 true bt158.2.1 bt158.2.2.1 bt158.2.2.2.1 bt167.2.1 bt167.2.2.1 bt167.2.2.2.1)) else (mjolnerlaw04_sane.j0 k t140 bt150.1 bt153.1 bt158.1 bt167.1 bt176.1 bt181.1 bt183.1 bt183.2.1 bt183.2.2.1 bt190.1 true bt158.2.1 bt158.2.2.1 bt158.2.2.2.1 bt167.2.1 bt167.2.2.1 bt167.2.2.2.1)) else (mjolnerlaw04_sane.j0 k t140 bt150.1 bt153.1 bt158.1 bt167.1 bt176.1 bt181.1 bt183.1 bt183.2.1 bt183.2.2.1 bt190.1 true bt158.2.1 bt158.2.2.1 bt158.2.2.2.1 bt167.2.1 bt167.2.2.1 bt167.2.2.2.1)))))))))) = some r := H
 have A2 := Aside0.mk A20
 clear A20
 replace H := Option.bind_eq_some_iff.mp H
 obtain ⟨⟨t150, t151, t152⟩, A30, H⟩ := H
 replace H : ((lex_Spans.f (⟨#[97, 40, 42, 98, 42, 41, 32, 99]⟩ : ByteArray)).bind fun bt153 => ((lex_Feed.f 0 (⟨#[]⟩ : ByteArray) 0 (⟨#[97, 98, 32, 49, 46]⟩ : ByteArray)).bind fun bt158 => ((lex_Feed.f bt158.2.1 bt158.2.2.1 bt158.2.2.2.1 (⟨#[120]⟩ : ByteArray)).bind fun bt167 => ((lex_Finish.f bt167.2.1 bt167.2.2.1 bt167.2.2.2.1).bind fun bt176 => ((lex_Touch.f k 3 (⟨#[49]⟩ : ByteArray) 0 0 0 7 (⟨#[46]⟩ : ByteArray) 0 0 0).bind fun bt181 => ((lex_Again.f (⟨#[97, 98, 32, 99, 100, 32, 101, 102]⟩ : ByteArray) 3 2 (⟨#[120]⟩ : ByteArray)).bind fun bt183 => ((lex_Print.f t140).bind fun bt190 => (if t141 = 0 then (if t146 = 7 then (if t147 = 2 then (if t151 = 0 then (if bt153.2.1 = 0 then (if bt158.2.2.2.2.1 = 0 then (if bt167.2.2.2.2.1 = 0 then (if bt176.2.1 = 0 then (if bt181.2 = 0 then (if bt183.2.2.2.1 = 0 then (mjolnerlaw04_sane.j0 k t140 t150 bt153.1 bt158.1 bt167.1 bt176.1 bt181.1 bt183.1 bt183.2.1 bt183.2.2.1 bt190.1 (bt190.2.1 != 0) bt158.2.1 bt158.2.2.1 bt158.2.2.2.1 bt167.2.1 bt167.2.2.1 bt167.2.2.2.1) else (mjolnerlaw04_sane.j0 k t140 t150 bt153.1 bt158.1 bt167.1 bt176.1 bt181.1 bt183.1 bt183.2.1 bt183.2.2.1 bt190.1 true bt158.2.1 bt158.2.2.1 bt158.2.2.2.1 bt167.2.1 bt167.2.2.1 bt167.2.2.2.1)) else (mjolnerlaw04_sane.j0 k t140 t150 bt153.1 bt158.1 bt167.1 bt176.1 bt181.1 bt183.1 bt183.2.1 bt183.2.2.1 bt190.1 true bt158.2.1 bt158.2.2.1 bt158.2.2.2.1 bt167.2.1 bt167.2.2.1 bt167.2.2.2.1)) else (mjolnerlaw04_sane.j0 k t140 t150 bt153.1 bt158.1 bt167.1 bt176.1 bt181.1 bt183.1 bt183.2.1 bt183.2.2.1 bt190.1 true bt158.2.1 bt158.2.2.1 bt158.2.2.2.1 bt167.2.1 bt167.2.2.1 bt167.2.2.2.1)) else (mjolnerlaw04_sane.j0 k t140 t150 bt153.1 bt158.1 bt167.1 bt176.1 bt181.1 bt183.1 bt183.2.1 bt183.2.2.1 bt190.1 true bt158.2.1 bt158.2.2.1 bt158.2.2.2.1 bt167.2.1 bt167.2.2.1 bt167.2.2.2.1)) else (mjolnerlaw04_sane.j0 k t140 t150 bt153.1 bt158.1 bt167.1 bt176.1 bt181.1 bt183.1 bt183.2.1 bt183.2.2.1 bt190.1 true bt158.2.1 bt158.2.2.1 bt158.2.2.2.1 bt167.2.1 bt167.2.2.1 bt167.2.2.2.1)) else (mjolnerlaw04_sane.j0 k t140 t150 bt153.1 bt158.1 bt167.1 bt176.1 bt181.1 bt183.1 bt183.2.1 bt183.2.2.1 bt190.1 true bt158.2.1 bt158.2.2.1 bt158.2.2.2.1 bt167.2.1 bt167.2.2.1 bt167.2.2.2.1)) else (mjolnerlaw04_sane.j0 k t140 t150 bt153.1 bt158.1 bt167.1 bt176.1 bt181.1 bt183.1 bt183.2.1 bt183.2.2.1 bt190.1 true bt158.2.1 bt158.2.2.1 bt158.2.2.2.1 bt167.2.1 bt167.2.2.1 bt167.2.2.2.1)) else (mjolnerlaw04_sane.j0 k t140 t150 bt153.1 bt158.1 bt167.1 bt176.1 bt181.1 bt183.1 bt183.2.1 bt183.2.2.1 bt190.1 true bt158.2.1 bt158.2.2.1 bt158.2.2.2.1 bt167.2.1 bt167.2.2.1 bt167.2.2.2.1)) else (mjolnerlaw04_sane.j0 k t140 t150 bt153.1 bt158.1 bt167.1 bt176.1 bt181.1 bt183.1 bt183.2.1 bt183.2.2.1 bt190.1 true bt158.2.1 bt158.2.2.1 bt158.2.2.2.1 bt167.2.1 bt167.2.2.1 bt167.2.2.2.1)) else (mjolnerlaw04_sane.j0 k t140 t150 bt153.1 bt158.1 bt167.1 bt176.1 bt181.1 bt183.1 bt183.2.1 bt183.2.2.1 bt190.1 true bt158.2.1 bt158.2.2.1 bt158.2.2.2.1 bt167.2.1 bt167.2.2.1 bt167.2.2.2.1))))))))) = some r := H
 have A3 := Aside0.mk A30
 clear A30
 replace H := Option.bind_eq_some_iff.mp H
 obtain ⟨⟨t153, t154, t155⟩, A40, H⟩ := H
 replace H : ((lex_Feed.f 0 (⟨#[]⟩ : ByteArray) 0 (⟨#[97, 98, 32, 49, 46]⟩ : ByteArray)).bind fun bt158 => ((lex_Feed.f bt158.2.1 bt158.2.2.1 bt158.2.2.2.1 (⟨#[120]⟩ : ByteArray)).bind fun bt167 => ((lex_Finish.f bt167.2.1 bt167.2.2.1 bt167.2.2.2.1).bind fun bt176 => ((lex_Touch.f k 3 (⟨#[49]⟩ : ByteArray) 0 0 0 7 (⟨#[46]⟩ : ByteArray) 0 0 0).bind fun bt181 => ((lex_Again.f (⟨#[97, 98, 32, 99, 100, 32, 101, 102]⟩ : ByteArray) 3 2 (⟨#[120]⟩ : ByteArray)).bind fun bt183 => ((lex_Print.f t140).bind fun bt190 => (if t141 = 0 then (if t146 = 7 then (if t147 = 2 then (if t151 = 0 then (if t154 = 0 then (if bt158.2.2.2.2.1 = 0 then (if bt167.2.2.2.2.1 = 0 then (if bt176.2.1 = 0 then (if bt181.2 = 0 then (if bt183.2.2.2.1 = 0 then (mjolnerlaw04_sane.j0 k t140 t150 t153 bt158.1 bt167.1 bt176.1 bt181.1 bt183.1 bt183.2.1 bt183.2.2.1 bt190.1 (bt190.2.1 != 0) bt158.2.1 bt158.2.2.1 bt158.2.2.2.1 bt167.2.1 bt167.2.2.1 bt167.2.2.2.1) else (mjolnerlaw04_sane.j0 k t140 t150 t153 bt158.1 bt167.1 bt176.1 bt181.1 bt183.1 bt183.2.1 bt183.2.2.1 bt190.1 true bt158.2.1 bt158.2.2.1 bt158.2.2.2.1 bt167.2.1 bt167.2.2.1 bt167.2.2.2.1)) else (mjolnerlaw04_sane.j0 k t140 t150 t153 bt158.1 bt167.1 bt176.1 bt181.1 bt183.1 bt183.2.1 bt183.2.2.1 bt190.1 true bt158.2.1 bt158.2.2.1 bt158.2.2.2.1 bt167.2.1 bt167.2.2.1 bt167.2.2.2.1)) else (mjolnerlaw04_sane.j0 k t140 t150 t153 bt158.1 bt167.1 bt176.1 bt181.1 bt183.1 bt183.2.1 bt183.2.2.1 bt190.1 true bt158.2.1 bt158.2.2.1 bt158.2.2.2.1 bt167.2.1 bt167.2.2.1 bt167.2.2.2.1)) else (mjolnerlaw04_sane.j0 k t140 t150 t153 bt158.1 bt167.1 bt176.1 bt181.1 bt183.1 bt183.2.1 bt183.2.2.1 bt190.1 true bt158.2.1 bt158.2.2.1 bt158.2.2.2.1 bt167.2.1 bt167.2.2.1 bt167.2.2.2.1)) else (mjolnerlaw04_sane.j0 k t140 t150 t153 bt158.1 bt167.1 bt176.1 bt181.1 bt183.1 bt183.2.1 bt183.2.2.1 bt190.1 true bt158.2.1 bt158.2.2.1 bt158.2.2.2.1 bt167.2.1 bt167.2.2.1 bt167.2.2.2.1)) else (mjolnerlaw04_sane.j0 k t140 t150 t153 bt158.1 bt167.1 bt176.1 bt181.1 bt183.1 bt183.2.1 bt183.2.2.1 bt190.1 true bt158.2.1 bt158.2.2.1 bt158.2.2.2.1 bt167.2.1 bt167.2.2.1 bt167.2.2.2.1)) else (mjolnerlaw04_sane.j0 k t140 t150 t153 bt158.1 bt167.1 bt176.1 bt181.1 bt183.1 bt183.2.1 bt183.2.2.1 bt190.1 true bt158.2.1 bt158.2.2.1 bt158.2.2.2.1 bt167.2.1 bt167.2.2.1 bt167.2.2.2.1)) else (mjolnerlaw04_sane.j0 k t140 t150 t153 bt158.1 bt167.1 bt176.1 bt181.1 bt183.1 bt183.2.1 bt183.2.2.1 bt190.1 true bt158.2.1 bt158.2.2.1 bt158.2.2.2.1 bt167.2.1 bt167.2.2.1 bt167.2.2.2.1)) else (mjolnerlaw04_sane.j0 k t140 t150 t153 bt158.1 bt167.1 bt176.1 bt181.1 bt183.1 bt183.2.1 bt183.2.2.1 bt190.1 true bt158.2.1 bt158.2.2.1 bt158.2.2.2.1 bt167.2.1 bt167.2.2.1 bt167.2.2.2.1)) else (mjolnerlaw04_sane.j0 k t140 t150 t153 bt158.1 bt167.1 bt176.1 bt181.1 bt183.1 bt183.2.1 bt183.2.2.1 bt190.1 true bt158.2.1 bt158.2.2.1 bt158.2.2.2.1 bt167.2.1 bt167.2.2.1 bt167.2.2.2.1)))))))) = some r := H
 have A4 := Aside0.mk A40
 clear A40
 replace H := Option.bind_eq_some_iff.mp H
 obtain ⟨⟨t158, t161, t162, t163, t164, t165⟩, A50, H⟩ := H
 replace H : ((lex_Feed.f t161 t162 t163 (⟨#[120]⟩ : ByteArray)).bind fun bt167 => ((lex_Finish.f bt167.2.1 bt167.2.2.1 bt167.2.2.2.1).bind fun bt176 => ((lex_Touch.f k 3 (⟨#[49]⟩ : ByteArray) 0 0 0 7 (⟨#[46]⟩ : ByteArray) 0 0 0).bind fun bt181 => ((lex_Again.f (⟨#[97, 98, 32, 99, 100, 32, 101, 102]⟩ : ByteArray) 3 2 (⟨#[120]⟩ : ByteArray)).bind fun bt183 => ((lex_Print.f t140).bind fun bt190 => (if t141 = 0 then (if t146 = 7 then (if t147 = 2 then (if t151 = 0 then (if t154 = 0 then (if t164 = 0 then (if bt167.2.2.2.2.1 = 0 then (if bt176.2.1 = 0 then (if bt181.2 = 0 then (if bt183.2.2.2.1 = 0 then (mjolnerlaw04_sane.j0 k t140 t150 t153 t158 bt167.1 bt176.1 bt181.1 bt183.1 bt183.2.1 bt183.2.2.1 bt190.1 (bt190.2.1 != 0) t161 t162 t163 bt167.2.1 bt167.2.2.1 bt167.2.2.2.1) else (mjolnerlaw04_sane.j0 k t140 t150 t153 t158 bt167.1 bt176.1 bt181.1 bt183.1 bt183.2.1 bt183.2.2.1 bt190.1 true t161 t162 t163 bt167.2.1 bt167.2.2.1 bt167.2.2.2.1)) else (mjolnerlaw04_sane.j0 k t140 t150 t153 t158 bt167.1 bt176.1 bt181.1 bt183.1 bt183.2.1 bt183.2.2.1 bt190.1 true t161 t162 t163 bt167.2.1 bt167.2.2.1 bt167.2.2.2.1)) else (mjolnerlaw04_sane.j0 k t140 t150 t153 t158 bt167.1 bt176.1 bt181.1 bt183.1 bt183.2.1 bt183.2.2.1 bt190.1 true t161 t162 t163 bt167.2.1 bt167.2.2.1 bt167.2.2.2.1)) else (mjolnerlaw04_sane.j0 k t140 t150 t153 t158 bt167.1 bt176.1 bt181.1 bt183.1 bt183.2.1 bt183.2.2.1 bt190.1 true t161 t162 t163 bt167.2.1 bt167.2.2.1 bt167.2.2.2.1)) else (mjolnerlaw04_sane.j0 k t140 t150 t153 t158 bt167.1 bt176.1 bt181.1 bt183.1 bt183.2.1 bt183.2.2.1 bt190.1 true t161 t162 t163 bt167.2.1 bt167.2.2.1 bt167.2.2.2.1)) else (mjolnerlaw04_sane.j0 k t140 t150 t153 t158 bt167.1 bt176.1 bt181.1 bt183.1 bt183.2.1 bt183.2.2.1 bt190.1 true t161 t162 t163 bt167.2.1 bt167.2.2.1 bt167.2.2.2.1)) else (mjolnerlaw04_sane.j0 k t140 t150 t153 t158 bt167.1 bt176.1 bt181.1 bt183.1 bt183.2.1 bt183.2.2.1 bt190.1 true t161 t162 t163 bt167.2.1 bt167.2.2.1 bt167.2.2.2.1)) else (mjolnerlaw04_sane.j0 k t140 t150 t153 t158 bt167.1 bt176.1 bt181.1 bt183.1 bt183.2.1 bt183.2.2.1 bt190.1 true t161 t162 t163 bt167.2.1 bt167.2.2.1 bt167.2.2.2.1)) else (mjolnerlaw04_sane.j0 k t140 t150 t153 t158 bt167.1 bt176.1 bt181.1 bt183.1 bt183.2.1 bt183.2.2.1 bt190.1 true t161 t162 t163 bt167.2.1 bt167.2.2.1 bt167.2.2.2.1)) else (mjolnerlaw04_sane.j0 k t140 t150 t153 t158 bt167.1 bt176.1 bt181.1 bt183.1 bt183.2.1 bt183.2.2.1 bt190.1 true t161 t162 t163 bt167.2.1 bt167.2.2.1 bt167.2.2.2.1))))))) = some r := H
 have A5 := Aside0.mk A50
 clear A50
 replace H := Option.bind_eq_some_iff.mp H
 obtain ⟨⟨t167, t170, t171, t172, t173, t174⟩, A60, H⟩ := H
 replace H : ((lex_Finish.f t170 t171 t172).bind fun bt176 => ((lex_Touch.f k 3 (⟨#[49]⟩ : ByteArray) 0 0 0 7 (⟨#[46]⟩ : ByteArray) 0 0 0).bind fun bt181 => ((lex_Again.f (⟨#[97, 98, 32, 99, 100, 32, 101, 102]⟩ : ByteArray) 3 2 (⟨#[120]⟩ : ByteArray)).bind fun bt183 => ((lex_Print.f t140).bind fun bt190 => (if t141 = 0 then (if t146 = 7 then (if t147 = 2 then (if t151 = 0 then (if t154 = 0 then (if t164 = 0 then (if t173 = 0 then (if bt176.2.1 = 0 then (if bt181.2 = 0 then (if bt183.2.2.2.1 = 0 then (mjolnerlaw04_sane.j0 k t140 t150 t153 t158 t167 bt176.1 bt181.1 bt183.1 bt183.2.1 bt183.2.2.1 bt190.1 (bt190.2.1 != 0) t161 t162 t163 t170 t171 t172) else (mjolnerlaw04_sane.j0 k t140 t150 t153 t158 t167 bt176.1 bt181.1 bt183.1 bt183.2.1 bt183.2.2.1 bt190.1 true t161 t162 t163 t170 t171 t172)) else (mjolnerlaw04_sane.j0 k t140 t150 t153 t158 t167 bt176.1 bt181.1 bt183.1 bt183.2.1 bt183.2.2.1 bt190.1 true t161 t162 t163 t170 t171 t172)) else (mjolnerlaw04_sane.j0 k t140 t150 t153 t158 t167 bt176.1 bt181.1 bt183.1 bt183.2.1 bt183.2.2.1 bt190.1 true t161 t162 t163 t170 t171 t172)) else (mjolnerlaw04_sane.j0 k t140 t150 t153 t158 t167 bt176.1 bt181.1 bt183.1 bt183.2.1 bt183.2.2.1 bt190.1 true t161 t162 t163 t170 t171 t172)) else (mjolnerlaw04_sane.j0 k t140 t150 t153 t158 t167 bt176.1 bt181.1 bt183.1 bt183.2.1 bt183.2.2.1 bt190.1 true t161 t162 t163 t170 t171 t172)) else (mjolnerlaw04_sane.j0 k t140 t150 t153 t158 t167 bt176.1 bt181.1 bt183.1 bt183.2.1 bt183.2.2.1 bt190.1 true t161 t162 t163 t170 t171 t172)) else (mjolnerlaw04_sane.j0 k t140 t150 t153 t158 t167 bt176.1 bt181.1 bt183.1 bt183.2.1 bt183.2.2.1 bt190.1 true t161 t162 t163 t170 t171 t172)) else (mjolnerlaw04_sane.j0 k t140 t150 t153 t158 t167 bt176.1 bt181.1 bt183.1 bt183.2.1 bt183.2.2.1 bt190.1 true t161 t162 t163 t170 t171 t172)) else (mjolnerlaw04_sane.j0 k t140 t150 t153 t158 t167 bt176.1 bt181.1 bt183.1 bt183.2.1 bt183.2.2.1 bt190.1 true t161 t162 t163 t170 t171 t172)) else (mjolnerlaw04_sane.j0 k t140 t150 t153 t158 t167 bt176.1 bt181.1 bt183.1 bt183.2.1 bt183.2.2.1 bt190.1 true t161 t162 t163 t170 t171 t172)))))) = some r := H
 have A6 := Aside0.mk A60
 clear A60
 replace H := Option.bind_eq_some_iff.mp H
 obtain ⟨⟨t176, t179, t180⟩, A70, H⟩ := H
 replace H : ((lex_Touch.f k 3 (⟨#[49]⟩ : ByteArray) 0 0 0 7 (⟨#[46]⟩ : ByteArray) 0 0 0).bind fun bt181 => ((lex_Again.f (⟨#[97, 98, 32, 99, 100, 32, 101, 102]⟩ : ByteArray) 3 2 (⟨#[120]⟩ : ByteArray)).bind fun bt183 => ((lex_Print.f t140).bind fun bt190 => (if t141 = 0 then (if t146 = 7 then (if t147 = 2 then (if t151 = 0 then (if t154 = 0 then (if t164 = 0 then (if t173 = 0 then (if t179 = 0 then (if bt181.2 = 0 then (if bt183.2.2.2.1 = 0 then (mjolnerlaw04_sane.j0 k t140 t150 t153 t158 t167 t176 bt181.1 bt183.1 bt183.2.1 bt183.2.2.1 bt190.1 (bt190.2.1 != 0) t161 t162 t163 t170 t171 t172) else (mjolnerlaw04_sane.j0 k t140 t150 t153 t158 t167 t176 bt181.1 bt183.1 bt183.2.1 bt183.2.2.1 bt190.1 true t161 t162 t163 t170 t171 t172)) else (mjolnerlaw04_sane.j0 k t140 t150 t153 t158 t167 t176 bt181.1 bt183.1 bt183.2.1 bt183.2.2.1 bt190.1 true t161 t162 t163 t170 t171 t172)) else (mjolnerlaw04_sane.j0 k t140 t150 t153 t158 t167 t176 bt181.1 bt183.1 bt183.2.1 bt183.2.2.1 bt190.1 true t161 t162 t163 t170 t171 t172)) else (mjolnerlaw04_sane.j0 k t140 t150 t153 t158 t167 t176 bt181.1 bt183.1 bt183.2.1 bt183.2.2.1 bt190.1 true t161 t162 t163 t170 t171 t172)) else (mjolnerlaw04_sane.j0 k t140 t150 t153 t158 t167 t176 bt181.1 bt183.1 bt183.2.1 bt183.2.2.1 bt190.1 true t161 t162 t163 t170 t171 t172)) else (mjolnerlaw04_sane.j0 k t140 t150 t153 t158 t167 t176 bt181.1 bt183.1 bt183.2.1 bt183.2.2.1 bt190.1 true t161 t162 t163 t170 t171 t172)) else (mjolnerlaw04_sane.j0 k t140 t150 t153 t158 t167 t176 bt181.1 bt183.1 bt183.2.1 bt183.2.2.1 bt190.1 true t161 t162 t163 t170 t171 t172)) else (mjolnerlaw04_sane.j0 k t140 t150 t153 t158 t167 t176 bt181.1 bt183.1 bt183.2.1 bt183.2.2.1 bt190.1 true t161 t162 t163 t170 t171 t172)) else (mjolnerlaw04_sane.j0 k t140 t150 t153 t158 t167 t176 bt181.1 bt183.1 bt183.2.1 bt183.2.2.1 bt190.1 true t161 t162 t163 t170 t171 t172)) else (mjolnerlaw04_sane.j0 k t140 t150 t153 t158 t167 t176 bt181.1 bt183.1 bt183.2.1 bt183.2.2.1 bt190.1 true t161 t162 t163 t170 t171 t172))))) = some r := H
 have A7 := Aside0.mk A70
 clear A70
 replace H := Option.bind_eq_some_iff.mp H
 obtain ⟨⟨t181, t182⟩, A80, H⟩ := H
 replace H : ((lex_Again.f (⟨#[97, 98, 32, 99, 100, 32, 101, 102]⟩ : ByteArray) 3 2 (⟨#[120]⟩ : ByteArray)).bind fun bt183 => ((lex_Print.f t140).bind fun bt190 => (if t141 = 0 then (if t146 = 7 then (if t147 = 2 then (if t151 = 0 then (if t154 = 0 then (if t164 = 0 then (if t173 = 0 then (if t179 = 0 then (if t182 = 0 then (if bt183.2.2.2.1 = 0 then (mjolnerlaw04_sane.j0 k t140 t150 t153 t158 t167 t176 t181 bt183.1 bt183.2.1 bt183.2.2.1 bt190.1 (bt190.2.1 != 0) t161 t162 t163 t170 t171 t172) else (mjolnerlaw04_sane.j0 k t140 t150 t153 t158 t167 t176 t181 bt183.1 bt183.2.1 bt183.2.2.1 bt190.1 true t161 t162 t163 t170 t171 t172)) else (mjolnerlaw04_sane.j0 k t140 t150 t153 t158 t167 t176 t181 bt183.1 bt183.2.1 bt183.2.2.1 bt190.1 true t161 t162 t163 t170 t171 t172)) else (mjolnerlaw04_sane.j0 k t140 t150 t153 t158 t167 t176 t181 bt183.1 bt183.2.1 bt183.2.2.1 bt190.1 true t161 t162 t163 t170 t171 t172)) else (mjolnerlaw04_sane.j0 k t140 t150 t153 t158 t167 t176 t181 bt183.1 bt183.2.1 bt183.2.2.1 bt190.1 true t161 t162 t163 t170 t171 t172)) else (mjolnerlaw04_sane.j0 k t140 t150 t153 t158 t167 t176 t181 bt183.1 bt183.2.1 bt183.2.2.1 bt190.1 true t161 t162 t163 t170 t171 t172)) else (mjolnerlaw04_sane.j0 k t140 t150 t153 t158 t167 t176 t181 bt183.1 bt183.2.1 bt183.2.2.1 bt190.1 true t161 t162 t163 t170 t171 t172)) else (mjolnerlaw04_sane.j0 k t140 t150 t153 t158 t167 t176 t181 bt183.1 bt183.2.1 bt183.2.2.1 bt190.1 true t161 t162 t163 t170 t171 t172)) else (mjolnerlaw04_sane.j0 k t140 t150 t153 t158 t167 t176 t181 bt183.1 bt183.2.1 bt183.2.2.1 bt190.1 true t161 t162 t163 t170 t171 t172)) else (mjolnerlaw04_sane.j0 k t140 t150 t153 t158 t167 t176 t181 bt183.1 bt183.2.1 bt183.2.2.1 bt190.1 true t161 t162 t163 t170 t171 t172)) else (mjolnerlaw04_sane.j0 k t140 t150 t153 t158 t167 t176 t181 bt183.1 bt183.2.1 bt183.2.2.1 bt190.1 true t161 t162 t163 t170 t171 t172)))) = some r := H
 have A8 := Aside0.mk A80
 clear A80
 replace H := Option.bind_eq_some_iff.mp H
 obtain ⟨⟨t183, t186, t187, t188, t189⟩, A90, H⟩ := H
 replace H : ((lex_Print.f t140).bind fun bt190 => (if t141 = 0 then (if t146 = 7 then (if t147 = 2 then (if t151 = 0 then (if t154 = 0 then (if t164 = 0 then (if t173 = 0 then (if t179 = 0 then (if t182 = 0 then (if t188 = 0 then (mjolnerlaw04_sane.j0 k t140 t150 t153 t158 t167 t176 t181 t183 t186 t187 bt190.1 (bt190.2.1 != 0) t161 t162 t163 t170 t171 t172) else (mjolnerlaw04_sane.j0 k t140 t150 t153 t158 t167 t176 t181 t183 t186 t187 bt190.1 true t161 t162 t163 t170 t171 t172)) else (mjolnerlaw04_sane.j0 k t140 t150 t153 t158 t167 t176 t181 t183 t186 t187 bt190.1 true t161 t162 t163 t170 t171 t172)) else (mjolnerlaw04_sane.j0 k t140 t150 t153 t158 t167 t176 t181 t183 t186 t187 bt190.1 true t161 t162 t163 t170 t171 t172)) else (mjolnerlaw04_sane.j0 k t140 t150 t153 t158 t167 t176 t181 t183 t186 t187 bt190.1 true t161 t162 t163 t170 t171 t172)) else (mjolnerlaw04_sane.j0 k t140 t150 t153 t158 t167 t176 t181 t183 t186 t187 bt190.1 true t161 t162 t163 t170 t171 t172)) else (mjolnerlaw04_sane.j0 k t140 t150 t153 t158 t167 t176 t181 t183 t186 t187 bt190.1 true t161 t162 t163 t170 t171 t172)) else (mjolnerlaw04_sane.j0 k t140 t150 t153 t158 t167 t176 t181 t183 t186 t187 bt190.1 true t161 t162 t163 t170 t171 t172)) else (mjolnerlaw04_sane.j0 k t140 t150 t153 t158 t167 t176 t181 t183 t186 t187 bt190.1 true t161 t162 t163 t170 t171 t172)) else (mjolnerlaw04_sane.j0 k t140 t150 t153 t158 t167 t176 t181 t183 t186 t187 bt190.1 true t161 t162 t163 t170 t171 t172)) else (mjolnerlaw04_sane.j0 k t140 t150 t153 t158 t167 t176 t181 t183 t186 t187 bt190.1 true t161 t162 t163 t170 t171 t172))) = some r := H
 have A9 := Aside0.mk A90
 clear A90
 replace H := Option.bind_eq_some_iff.mp H
 obtain ⟨⟨t190, t191, t192⟩, A100, H⟩ := H
 replace H : (if t141 = 0 then (if t146 = 7 then (if t147 = 2 then (if t151 = 0 then (if t154 = 0 then (if t164 = 0 then (if t173 = 0 then (if t179 = 0 then (if t182 = 0 then (if t188 = 0 then (mjolnerlaw04_sane.j0 k t140 t150 t153 t158 t167 t176 t181 t183 t186 t187 t190 (t191 != 0) t161 t162 t163 t170 t171 t172) else (mjolnerlaw04_sane.j0 k t140 t150 t153 t158 t167 t176 t181 t183 t186 t187 t190 true t161 t162 t163 t170 t171 t172)) else (mjolnerlaw04_sane.j0 k t140 t150 t153 t158 t167 t176 t181 t183 t186 t187 t190 true t161 t162 t163 t170 t171 t172)) else (mjolnerlaw04_sane.j0 k t140 t150 t153 t158 t167 t176 t181 t183 t186 t187 t190 true t161 t162 t163 t170 t171 t172)) else (mjolnerlaw04_sane.j0 k t140 t150 t153 t158 t167 t176 t181 t183 t186 t187 t190 true t161 t162 t163 t170 t171 t172)) else (mjolnerlaw04_sane.j0 k t140 t150 t153 t158 t167 t176 t181 t183 t186 t187 t190 true t161 t162 t163 t170 t171 t172)) else (mjolnerlaw04_sane.j0 k t140 t150 t153 t158 t167 t176 t181 t183 t186 t187 t190 true t161 t162 t163 t170 t171 t172)) else (mjolnerlaw04_sane.j0 k t140 t150 t153 t158 t167 t176 t181 t183 t186 t187 t190 true t161 t162 t163 t170 t171 t172)) else (mjolnerlaw04_sane.j0 k t140 t150 t153 t158 t167 t176 t181 t183 t186 t187 t190 true t161 t162 t163 t170 t171 t172)) else (mjolnerlaw04_sane.j0 k t140 t150 t153 t158 t167 t176 t181 t183 t186 t187 t190 true t161 t162 t163 t170 t171 t172)) else (mjolnerlaw04_sane.j0 k t140 t150 t153 t158 t167 t176 t181 t183 t186 t187 t190 true t161 t162 t163 t170 t171 t172)) = some r := H
 have A10 := Aside0.mk A100
 clear A100
 have HC11 := Aside0.mk H
 clear H
 go_enter Tryd.func10, Tryd.ntmps10
 go_upto_region 11 with (first | ((with_reducible refine gate_callee (f := 11) rfl ?_); refine goesL_ (some 36) rfl rfl Tryd.func11 (by kernel_rfl) rfl #[.string (⟨#[120, 49, 58, 58, 60, 40, 35, 49, 46, 53, 101, 50, 35, 41]⟩ : ByteArray)] rfl (by (try simp only [List.map_toArray, List.map_cons, List.map_nil]); first | done | rfl | (simp only [List.length_drop, List.length_take]; rfl)) ?_; (with_reducible refine (lex_Lex.calls (⟨#[120, 49, 58, 58, 60, 40, 35, 49, 46, 53, 101, 50, 35, 41]⟩ : ByteArray) t140 t141 t142 _ ?side1 A1.out).mono ?_); (case side1 => exact HG.out _ (by repeat (first | (with_reducible first | exact HB.out | apply below_alloc | apply pw_below_drewN | apply below_drew1) | exact HB.out))); rintro e w12 ⟨v143, rfl, ho0, hb⟩; refine ⟨_, rfl, ?_⟩; have n0_ := Aside0.mk (Kd.R_lower ho0 (below_size (by repeat (first | (with_reducible first | exact HB.out | apply below_alloc | apply pw_below_drewN | apply below_drew1) | exact HB.out)))); have n1_ := Aside0.mk (below_step (by repeat (first | (with_reducible first | exact HB.out | apply below_alloc | apply pw_below_drewN | apply below_drew1) | exact HB.out)) hb); clear HB; have HO144 := n0_; have HB := n1_; clear n0_ n1_; (try clear hb); (try clear hb2); (try clear hk); (try clear hi); (try clear ho0)) | ((with_reducible refine gate_callee (f := 11) rfl ?_); refine goesL_ (some 41) rfl rfl Tryd.func11 (by kernel_rfl) rfl #[.string (⟨#[59, 32, 49, 50, 97]⟩ : ByteArray)] rfl (by (try simp only [List.map_toArray, List.map_cons, List.map_nil]); first | done | rfl | (simp only [List.length_drop, List.length_take]; rfl)) ?_; (with_reducible refine (lex_Lex.calls (⟨#[59, 32, 49, 50, 97]⟩ : ByteArray) t145 t146 t147 _ ?side1 A2.out).mono ?_); (case side1 => exact HG.out _ (by repeat (first | (with_reducible first | exact HB.out | apply below_alloc | apply pw_below_drewN | apply below_drew1) | exact HB.out))); rintro e w13 ⟨v148, rfl, ho0, hb⟩; refine ⟨_, rfl, ?_⟩; have n0_ := Aside0.mk (Kd.R_elder' (by (with_reducible repeat (first | apply Kd.R_alloc | apply Kd.R_drewN | apply Kd.R_drew)); exact HO144.out) (Kd.R_base ho0) hb); have n1_ := Aside0.mk (Kd.R_lower (Kd.R_new' ho0 (Kd.R_lt (by (with_reducible repeat (first | apply Kd.R_alloc | apply Kd.R_drewN | apply Kd.R_drew)); exact HO144.out))) (below_size (by repeat (first | (with_reducible first | exact HB.out | apply below_alloc | apply pw_below_drewN | apply below_drew1) | exact HB.out)))); have n2_ := Aside0.mk (below_step (by repeat (first | (with_reducible first | exact HB.out | apply below_alloc | apply pw_below_drewN | apply below_drew1) | exact HB.out)) hb); clear HO144; clear HB; have HO144 := n0_; have HO149 := n1_; have HB := n2_; clear n0_ n1_ n2_; (try clear hb); (try clear hb2); (try clear hk); (try clear hi); (try clear ho0)) | ((with_reducible refine gate_callee (f := 24) rfl ?_); refine goesL_ (some 46) rfl rfl Tryd.func24 (by kernel_rfl) rfl #[.string (⟨#[97, 40, 42, 98, 10, 42, 41, 99]⟩ : ByteArray)] rfl (by (try simp only [List.map_toArray, List.map_cons, List.map_nil]); first | done | rfl | (simp only [List.length_drop, List.length_take]; rfl)) ?_; (with_reducible refine (lex_Veil.calls (⟨#[97, 40, 42, 98, 10, 42, 41, 99]⟩ : ByteArray) t150 t151 t152 _ ?side1 A3.out).mono ?_); (case side1 => exact HG.out _ (by repeat (first | (with_reducible first | exact HB.out | apply below_alloc | apply pw_below_drewN | apply below_drew1) | exact HB.out))); rintro e w14 ⟨rfl, hb⟩; refine ⟨_, rfl, ?_⟩; have n0_ := Aside0.mk (Kd.R_below (by (with_reducible repeat (first | apply Kd.R_alloc | apply Kd.R_drewN | apply Kd.R_drew)); exact HO144.out) hb); have n1_ := Aside0.mk (Kd.R_below (by (with_reducible repeat (first | apply Kd.R_alloc | apply Kd.R_drewN | apply Kd.R_drew)); exact HO149.out) hb); have n2_ := Aside0.mk (below_step (by repeat (first | (with_reducible first | exact HB.out | apply below_alloc | apply pw_below_drewN | apply below_drew1) | exact HB.out)) hb); clear HO144; clear HO149; clear HB; have HO144 := n0_; have HO149 := n1_; have HB := n2_; clear n0_ n1_ n2_; (try clear hb); (try clear hb2); (try clear hk); (try clear hi)) | ((with_reducible refine gate_callee (f := 15) rfl ?_); refine goesL_ (some 51) rfl rfl Tryd.func15 (by kernel_rfl) rfl #[.string (⟨#[97, 40, 42, 98, 42, 41, 32, 99]⟩ : ByteArray)] rfl (by (try simp only [List.map_toArray, List.map_cons, List.map_nil]); first | done | rfl | (simp only [List.length_drop, List.length_take]; rfl)) ?_; (with_reducible refine (lex_Spans.calls (⟨#[97, 40, 42, 98, 42, 41, 32, 99]⟩ : ByteArray) t153 t154 t155 _ ?side1 A4.out).mono ?_); (case side1 => exact HG.out _ (by repeat (first | (with_reducible first | exact HB.out | apply below_alloc | apply pw_below_drewN | apply below_drew1) | exact HB.out))); rintro e w15 ⟨v156, rfl, ho0, hb⟩; refine ⟨_, rfl, ?_⟩; have n0_ := Aside0.mk (Kd.R_below (by (with_reducible repeat (first | apply Kd.R_alloc | apply Kd.R_drewN | apply Kd.R_drew)); exact HO144.out) hb); have n1_ := Aside0.mk (Kd.R_below (by (with_reducible repeat (first | apply Kd.R_alloc | apply Kd.R_drewN | apply Kd.R_drew)); exact HO149.out) hb); have n2_ := Aside0.mk (Kd.R_lower ho0 (below_size (by repeat (first | (with_reducible first | exact HB.out | apply below_alloc | apply pw_below_drewN | apply below_drew1) | exact HB.out)))); have n3_ := Aside0.mk (below_step (by repeat (first | (with_reducible first | exact HB.out | apply below_alloc | apply pw_below_drewN | apply below_drew1) | exact HB.out)) hb); clear HO144; clear HO149; clear HB; have HO144 := n0_; have HO149 := n1_; have HO157 := n2_; have HB := n3_; clear n0_ n1_ n2_ n3_; (try clear hb); (try clear hb2); (try clear hk); (try clear hi); (try clear ho0)) | ((with_reducible refine gate_callee (f := 26) rfl ?_); refine goesL_ (some 57) rfl rfl Tryd.func26 (by kernel_rfl) rfl #[.agg #[.int .i64 0, .string (⟨#[]⟩ : ByteArray), .int .i64 0], .string (⟨#[97, 98, 32, 49, 46]⟩ : ByteArray)] rfl (by (try simp only [List.map_toArray, List.map_cons, List.map_nil]); first | done | rfl | (simp only [List.length_drop, List.length_take]; rfl)) ?_; (with_reducible refine (lex_Feed.calls 0 (⟨#[]⟩ : ByteArray) 0 (⟨#[97, 98, 32, 49, 46]⟩ : ByteArray) t158 t161 t162 t163 t164 t165 _ ?side1 A5.out).mono ?_); (case side1 => exact HG.out _ (by repeat (first | (with_reducible first | exact HB.out | apply below_alloc | apply pw_below_drewN | apply below_drew1) | exact HB.out))); rintro e w16 ⟨v159, rfl, ho0, hb⟩; refine ⟨_, rfl, ?_⟩; have n0_ := Aside0.mk (Kd.R_elder' (by (with_reducible repeat (first | apply Kd.R_alloc | apply Kd.R_drewN | apply Kd.R_drew)); exact HO144.out) (Kd.R_base ho0) hb); have n1_ := Aside0.mk (Kd.R_elder' (by (with_reducible repeat (first | apply Kd.R_alloc | apply Kd.R_drewN | apply Kd.R_drew)); exact HO149.out) (Kd.R_base ho0) hb); have n2_ := Aside0.mk (Kd.R_below (by (with_reducible repeat (first | apply Kd.R_alloc | apply Kd.R_drewN | apply Kd.R_drew)); exact HO157.out) hb); have n3_ := Aside0.mk (Kd.R_lower (Kd.R_new' (Kd.R_new' ho0 (Kd.R_lt (by (with_reducible repeat (first | apply Kd.R_alloc | apply Kd.R_drewN | apply Kd.R_drew)); exact HO144.out))) (Kd.R_lt (by (with_reducible repeat (first | apply Kd.R_alloc | apply Kd.R_drewN | apply Kd.R_drew)); exact HO149.out))) (below_size (by repeat (first | (with_reducible first | exact HB.out | apply below_alloc | apply pw_below_drewN | apply below_drew1) | exact HB.out)))); have n4_ := Aside0.mk (below_step (by repeat (first | (with_reducible first | exact HB.out | apply below_alloc | apply pw_below_drewN | apply below_drew1) | exact HB.out)) hb); clear HO144; clear HO149; clear HO157; clear HB; have HO144 := n0_; have HO149 := n1_; have HO157 := n2_; have HO160 := n3_; have HB := n4_; clear n0_ n1_ n2_ n3_ n4_; (try clear hb); (try clear hb2); (try clear hk); (try clear hi); (try clear ho0)) | ((with_reducible refine gate_dst (N := 14) rfl ?_); (try (refine gate_guard (by rfl) ?_; dsimp only)); refine box_event ?hg (N := 14) ?hd (cs := #[.int .i64 0, .string (⟨#[]⟩ : ByteArray), .int .i64 0]) (t := 29) ?hr ?_; (case hd => rfl); (case hg => rfl); (case hr => first | (go_simp; done) | (go_simp; rfl)); intro gb166 hg w17 hbox hb; have n0_ := Aside0.mk (Kd.R_below (by (with_reducible repeat (first | apply Kd.R_alloc | apply Kd.R_drewN | apply Kd.R_drew)); exact HO144.out) hb); have n1_ := Aside0.mk (Kd.R_below (by (with_reducible repeat (first | apply Kd.R_alloc | apply Kd.R_drewN | apply Kd.R_drew)); exact HO149.out) hb); have n2_ := Aside0.mk (Kd.R_below (by (with_reducible repeat (first | apply Kd.R_alloc | apply Kd.R_drewN | apply Kd.R_drew)); exact HO157.out) hb); have n3_ := Aside0.mk (Kd.R_below (by (with_reducible repeat (first | apply Kd.R_alloc | apply Kd.R_drewN | apply Kd.R_drew)); exact HO160.out) hb); have n4_ := Aside0.mk (below_step (by repeat (first | (with_reducible first | exact HB.out | apply below_alloc | apply pw_below_drewN | apply below_drew1) | exact HB.out)) hb); have n5_ := Aside0.mk (hbox); have n6_ := Aside0.mk ((by rw [hg]; exact (below_size (by repeat (first | (with_reducible first | exact HB.out | apply below_alloc | apply pw_below_drewN | apply below_drew1) | exact HB.out))) : w.heap.size ≤ gb166)); have n7_ := Aside0.mk ((by rw [hg]; exact (below_size (by repeat (first | (with_reducible first | exact HB.out | apply below_alloc | apply pw_below_drewN | apply below_drew1) | exact HB.out))) : w.heap.size ≤ gb166)); clear HO144; clear HO149; clear HO157; clear HO160; clear HB; have HO144 := n0_; have HO149 := n1_; have HO157 := n2_; have HO160 := n3_; have HB := n4_; have BK166 := n5_; have GW166 := n6_; have GE166 := n7_; clear n0_ n1_ n2_ n3_ n4_ n5_ n6_ n7_; clear hb hbox hg; have hcz18_0 : w17.cell? ⟨gb166, 0, none⟩ = some (.int .i64 0) := (blk_cell BK166.out 0).trans rfl; have hcz18_1 : w17.cell? ⟨gb166, 1, none⟩ = some (.string (⟨#[]⟩ : ByteArray)) := (blk_cell BK166.out 1).trans rfl; have hcz18_2 : w17.cell? ⟨gb166, 2, none⟩ = some (.int .i64 0) := (blk_cell BK166.out 2).trans rfl; have hfz18_0 := blk_frozen BK166.out 0; have hfz18_1 := blk_frozen BK166.out 1; have hfz18_2 := blk_frozen BK166.out 2) | ((with_reducible refine gate_callee (f := 26) rfl ?_); refine goesL_ (some 64) rfl rfl Tryd.func26 (by kernel_rfl) rfl #[.agg #[.int .i64 t161, .string t162, .int .i64 t163], .string (⟨#[120]⟩ : ByteArray)] rfl (by (try simp only [List.map_toArray, List.map_cons, List.map_nil]); first | done | rfl | (simp only [List.length_drop, List.length_take]; rfl)) ?_; (with_reducible refine (lex_Feed.calls t161 t162 t163 (⟨#[120]⟩ : ByteArray) t167 t170 t171 t172 t173 t174 _ ?side1 A6.out).mono ?_); (case side1 => exact HG.out _ (by repeat (first | (with_reducible first | exact HB.out | apply below_alloc | apply pw_below_drewN | apply below_drew1 | refine below_set ?_ GE166.out) | exact HB.out))); rintro e w19 ⟨v168, rfl, ho0, hb⟩; refine ⟨_, rfl, ?_⟩; have n0_ := Aside0.mk (Kd.R_elder' (by (with_reducible repeat (first | apply Kd.R_alloc | apply Kd.R_drewN | apply Kd.R_drew)); exact (Kd.R_mono (Kd.R_far (p := ⟨gb166, 2, none⟩) (Kd.R_far (p := ⟨gb166, 1, none⟩) (Kd.R_far (p := ⟨gb166, 0, none⟩) (Kd.R_types HO144.out BK166.out (by decide)) (fun _ hk => hk.2) (.int .i64 t161)) (fun _ hk => hk.2) (.string t162)) (fun _ hk => hk.2) (.int .i64 t163)) (fun _ h_ => h_.1))) (Kd.R_base ho0) hb); have n1_ := Aside0.mk (Kd.R_elder' (by (with_reducible repeat (first | apply Kd.R_alloc | apply Kd.R_drewN | apply Kd.R_drew)); exact (Kd.R_mono (Kd.R_far (p := ⟨gb166, 2, none⟩) (Kd.R_far (p := ⟨gb166, 1, none⟩) (Kd.R_far (p := ⟨gb166, 0, none⟩) (Kd.R_types HO149.out BK166.out (by decide)) (fun _ hk => hk.2) (.int .i64 t161)) (fun _ hk => hk.2) (.string t162)) (fun _ hk => hk.2) (.int .i64 t163)) (fun _ h_ => h_.1))) (Kd.R_base ho0) hb); have n2_ := Aside0.mk (Kd.R_below (by (with_reducible repeat (first | apply Kd.R_alloc | apply Kd.R_drewN | apply Kd.R_drew)); exact (Kd.R_mono (Kd.R_far (p := ⟨gb166, 2, none⟩) (Kd.R_far (p := ⟨gb166, 1, none⟩) (Kd.R_far (p := ⟨gb166, 0, none⟩) (Kd.R_types HO157.out BK166.out (by decide)) (fun _ hk => hk.2) (.int .i64 t161)) (fun _ hk => hk.2) (.string t162)) (fun _ hk => hk.2) (.int .i64 t163)) (fun _ h_ => h_.1))) hb); have n3_ := Aside0.mk (Kd.R_elder' (by (with_reducible repeat (first | apply Kd.R_alloc | apply Kd.R_drewN | apply Kd.R_drew)); exact (Kd.R_mono (Kd.R_far (p := ⟨gb166, 2, none⟩) (Kd.R_far (p := ⟨gb166, 1, none⟩) (Kd.R_far (p := ⟨gb166, 0, none⟩) (Kd.R_types HO160.out BK166.out (by decide)) (fun _ hk => hk.2) (.int .i64 t161)) (fun _ hk => hk.2) (.string t162)) (fun _ hk => hk.2) (.int .i64 t163)) (fun _ h_ => h_.1))) (Kd.R_base ho0) hb); have n4_ := Aside0.mk (Kd.R_lower (Kd.R_new' (Kd.R_new' (Kd.R_new' ho0 (Kd.R_lt (by (with_reducible repeat (first | apply Kd.R_alloc | apply Kd.R_drewN | apply Kd.R_drew)); exact (Kd.R_mono (Kd.R_far (p := ⟨gb166, 2, none⟩) (Kd.R_far (p := ⟨gb166, 1, none⟩) (Kd.R_far (p := ⟨gb166, 0, none⟩) (Kd.R_types HO144.out BK166.out (by decide)) (fun _ hk => hk.2) (.int .i64 t161)) (fun _ hk => hk.2) (.string t162)) (fun _ hk => hk.2) (.int .i64 t163)) (fun _ h_ => h_.1))))) (Kd.R_lt (by (with_reducible repeat (first | apply Kd.R_alloc | apply Kd.R_drewN | apply Kd.R_drew)); exact (Kd.R_mono (Kd.R_far (p := ⟨gb166, 2, none⟩) (Kd.R_far (p := ⟨gb166, 1, none⟩) (Kd.R_far (p := ⟨gb166, 0, none⟩) (Kd.R_types HO149.out BK166.out (by decide)) (fun _ hk => hk.2) (.int .i64 t161)) (fun _ hk => hk.2) (.string t162)) (fun _ hk => hk.2) (.int .i64 t163)) (fun _ h_ => h_.1))))) (Kd.R_lt (by (with_reducible repeat (first | apply Kd.R_alloc | apply Kd.R_drewN | apply Kd.R_drew)); exact (Kd.R_mono (Kd.R_far (p := ⟨gb166, 2, none⟩) (Kd.R_far (p := ⟨gb166, 1, none⟩) (Kd.R_far (p := ⟨gb166, 0, none⟩) (Kd.R_types HO160.out BK166.out (by decide)) (fun _ hk => hk.2) (.int .i64 t161)) (fun _ hk => hk.2) (.string t162)) (fun _ hk => hk.2) (.int .i64 t163)) (fun _ h_ => h_.1))))) (below_size (by repeat (first | (with_reducible first | exact HB.out | apply below_alloc | apply pw_below_drewN | apply below_drew1 | refine below_set ?_ GE166.out) | exact HB.out)))); have n5_ := Aside0.mk (blk_below (g := gb166) (o := .cells #[.int .i64 t161, .string t162, .int .i64 t163] 29 (0, 0)) (by (with_reducible repeat (first | refine blk_drewN ?_ _ | refine blk_drew ?_ | refine blk_alloc ?_ _)); refine blk_put (cs := #[.int .i64 t161, .string t162, .int .i64 0]) ?_ 2 _ rfl; (with_reducible repeat (first | refine blk_drewN ?_ _ | refine blk_drew ?_ | refine blk_alloc ?_ _)); refine blk_put (cs := #[.int .i64 t161, .string (⟨#[]⟩ : ByteArray), .int .i64 0]) ?_ 1 _ rfl; (with_reducible repeat (first | refine blk_drewN ?_ _ | refine blk_drew ?_ | refine blk_alloc ?_ _)); refine blk_put (cs := #[.int .i64 0, .string (⟨#[]⟩ : ByteArray), .int .i64 0]) ?_ 0 _ rfl; (with_reducible repeat (first | refine blk_drewN ?_ _ | refine blk_drew ?_ | refine blk_alloc ?_ _)); exact BK166.out) hb); have n6_ := Aside0.mk (below_step (by repeat (first | (with_reducible first | exact HB.out | apply below_alloc | apply pw_below_drewN | apply below_drew1 | refine below_set ?_ GE166.out) | exact HB.out)) hb); clear HO144; clear HO149; clear HO157; clear HO160; clear BK166; clear HB; have HO144 := n0_; have HO149 := n1_; have HO157 := n2_; have HO160 := n3_; have HO169 := n4_; have BK166 := n5_; have HB := n6_; clear n0_ n1_ n2_ n3_ n4_ n5_ n6_; (try clear hb); (try clear hb2); (try clear hk); (try clear hi); (try clear ho0)) | ((with_reducible refine gate_dst (N := 18) rfl ?_); (try (refine gate_guard (by rfl) ?_; dsimp only)); refine box_event ?hg (N := 18) ?hd (cs := #[.int .i64 0, .string (⟨#[]⟩ : ByteArray), .int .i64 0]) (t := 29) ?hr ?_; (case hd => rfl); (case hg => rfl); (case hr => first | (go_simp; done) | (go_simp; rfl)); intro gb175 hg w20 hbox hb; have n0_ := Aside0.mk (Kd.R_below (by (with_reducible repeat (first | apply Kd.R_alloc | apply Kd.R_drewN | apply Kd.R_drew)); exact HO144.out) hb); have n1_ := Aside0.mk (Kd.R_below (by (with_reducible repeat (first | apply Kd.R_alloc | apply Kd.R_drewN | apply Kd.R_drew)); exact HO149.out) hb); have n2_ := Aside0.mk (Kd.R_below (by (with_reducible repeat (first | apply Kd.R_alloc | apply Kd.R_drewN | apply Kd.R_drew)); exact HO157.out) hb); have n3_ := Aside0.mk (Kd.R_below (by (with_reducible repeat (first | apply Kd.R_alloc | apply Kd.R_drewN | apply Kd.R_drew)); exact HO160.out) hb); have n4_ := Aside0.mk (Kd.R_below (by (with_reducible repeat (first | apply Kd.R_alloc | apply Kd.R_drewN | apply Kd.R_drew)); exact HO169.out) hb); have n5_ := Aside0.mk (blk_below (g := gb166) (o := .cells #[.int .i64 t161, .string t162, .int .i64 t163] 29 (0, 0)) (by (with_reducible repeat (first | refine blk_drewN ?_ _ | refine blk_drew ?_ | refine blk_alloc ?_ _)); exact BK166.out) hb); have n6_ := Aside0.mk (below_step (by repeat (first | (with_reducible first | exact HB.out | apply below_alloc | apply pw_below_drewN | apply below_drew1 | refine below_set ?_ GE166.out) | exact HB.out)) hb); have n7_ := Aside0.mk (hbox); have n8_ := Aside0.mk ((by rw [hg]; exact (below_size (by repeat (first | (with_reducible first | exact HB.out | apply below_alloc | apply pw_below_drewN | apply below_drew1 | refine below_set ?_ GE166.out) | exact HB.out))) : w.heap.size ≤ gb175)); have n9_ := Aside0.mk ((by rw [hg]; exact (below_size (by repeat (first | (with_reducible first | exact HB.out | apply below_alloc | apply pw_below_drewN | apply below_drew1 | refine below_set ?_ GE166.out) | exact HB.out))) : w.heap.size ≤ gb175)); have n10_ := Aside0.mk ((by rw [hg]; exact Nat.ne_of_lt (blk_lt (g := gb166) (o := .cells #[.int .i64 t161, .string t162, .int .i64 t163] 29 (0, 0)) (by (with_reducible repeat (first | refine blk_drewN ?_ _ | refine blk_drew ?_ | refine blk_alloc ?_ _)); exact BK166.out)) : gb166 ≠ gb175)); have n11_ := Aside0.mk ((by rw [hg]; exact Nat.ne_of_gt (blk_lt (g := gb166) (o := .cells #[.int .i64 t161, .string t162, .int .i64 t163] 29 (0, 0)) (by (with_reducible repeat (first | refine blk_drewN ?_ _ | refine blk_drew ?_ | refine blk_alloc ?_ _)); exact BK166.out)) : gb175 ≠ gb166)); clear HO144; clear HO149; clear HO157; clear HO160; clear HO169; clear BK166; clear HB; have HO144 := n0_; have HO149 := n1_; have HO157 := n2_; have HO160 := n3_; have HO169 := n4_; have BK166 := n5_; have HB := n6_; have BK175 := n7_; have GW175 := n8_; have GE175 := n9_; have NB166_175 := n10_; have NB175_166 := n11_; clear n0_ n1_ n2_ n3_ n4_ n5_ n6_ n7_ n8_ n9_ n10_ n11_; clear hb hbox hg; have hnb21 := NB175_166.out; have hnc21 := NB166_175.out; have hcz22_0 : w20.cell? ⟨gb175, 0, none⟩ = some (.int .i64 0) := (blk_cell BK175.out 0).trans rfl; have hcz22_1 : w20.cell? ⟨gb175, 1, none⟩ = some (.string (⟨#[]⟩ : ByteArray)) := (blk_cell BK175.out 1).trans rfl; have hcz22_2 : w20.cell? ⟨gb175, 2, none⟩ = some (.int .i64 0) := (blk_cell BK175.out 2).trans rfl; have hfz22_0 := blk_frozen BK175.out 0; have hfz22_1 := blk_frozen BK175.out 1; have hfz22_2 := blk_frozen BK175.out 2) | ((with_reducible refine gate_callee (f := 14) rfl ?_); refine goesL_ (some 71) rfl rfl Tryd.func14 (by kernel_rfl) rfl #[.agg #[.int .i64 t170, .string t171, .int .i64 t172]] rfl (by (try simp only [List.map_toArray, List.map_cons, List.map_nil]); first | done | rfl | (simp only [List.length_drop, List.length_take]; rfl)) ?_; (with_reducible refine (lex_Finish.calls t170 t171 t172 t176 t179 t180 _ ?side1 A7.out).mono ?_); (case side1 => exact HG.out _ (by repeat (first | (with_reducible first | exact HB.out | apply below_alloc | apply pw_below_drewN | apply below_drew1 | refine below_set ?_ GE166.out | refine below_set ?_ GE175.out) | exact HB.out))); rintro e w23 ⟨v177, rfl, ho0, hb⟩; refine ⟨_, rfl, ?_⟩; have n0_ := Aside0.mk (Kd.R_elder' (by (with_reducible repeat (first | apply Kd.R_alloc | apply Kd.R_drewN | apply Kd.R_drew)); exact (Kd.R_mono (Kd.R_far (p := ⟨gb175, 2, none⟩) (Kd.R_far (p := ⟨gb175, 1, none⟩) (Kd.R_far (p := ⟨gb175, 0, none⟩) (Kd.R_types HO144.out BK175.out (by decide)) (fun _ hk => hk.2) (.int .i64 t170)) (fun _ hk => hk.2) (.string t171)) (fun _ hk => hk.2) (.int .i64 t172)) (fun _ h_ => h_.1))) (Kd.R_base ho0) hb); have n1_ := Aside0.mk (Kd.R_elder' (by (with_reducible repeat (first | apply Kd.R_alloc | apply Kd.R_drewN | apply Kd.R_drew)); exact (Kd.R_mono (Kd.R_far (p := ⟨gb175, 2, none⟩) (Kd.R_far (p := ⟨gb175, 1, none⟩) (Kd.R_far (p := ⟨gb175, 0, none⟩) (Kd.R_types HO149.out BK175.out (by decide)) (fun _ hk => hk.2) (.int .i64 t170)) (fun _ hk => hk.2) (.string t171)) (fun _ hk => hk.2) (.int .i64 t172)) (fun _ h_ => h_.1))) (Kd.R_base ho0) hb); have n2_ := Aside0.mk (Kd.R_below (by (with_reducible repeat (first | apply Kd.R_alloc | apply Kd.R_drewN | apply Kd.R_drew)); exact (Kd.R_mono (Kd.R_far (p := ⟨gb175, 2, none⟩) (Kd.R_far (p := ⟨gb175, 1, none⟩) (Kd.R_far (p := ⟨gb175, 0, none⟩) (Kd.R_types HO157.out BK175.out (by decide)) (fun _ hk => hk.2) (.int .i64 t170)) (fun _ hk => hk.2) (.string t171)) (fun _ hk => hk.2) (.int .i64 t172)) (fun _ h_ => h_.1))) hb); have n3_ := Aside0.mk (Kd.R_elder' (by (with_reducible repeat (first | apply Kd.R_alloc | apply Kd.R_drewN | apply Kd.R_drew)); exact (Kd.R_mono (Kd.R_far (p := ⟨gb175, 2, none⟩) (Kd.R_far (p := ⟨gb175, 1, none⟩) (Kd.R_far (p := ⟨gb175, 0, none⟩) (Kd.R_types HO160.out BK175.out (by decide)) (fun _ hk => hk.2) (.int .i64 t170)) (fun _ hk => hk.2) (.string t171)) (fun _ hk => hk.2) (.int .i64 t172)) (fun _ h_ => h_.1))) (Kd.R_base ho0) hb); have n4_ := Aside0.mk (Kd.R_elder' (by (with_reducible repeat (first | apply Kd.R_alloc | apply Kd.R_drewN | apply Kd.R_drew)); exact (Kd.R_mono (Kd.R_far (p := ⟨gb175, 2, none⟩) (Kd.R_far (p := ⟨gb175, 1, none⟩) (Kd.R_far (p := ⟨gb175, 0, none⟩) (Kd.R_types HO169.out BK175.out (by decide)) (fun _ hk => hk.2) (.int .i64 t170)) (fun _ hk => hk.2) (.string t171)) (fun _ hk => hk.2) (.int .i64 t172)) (fun _ h_ => h_.1))) (Kd.R_base ho0) hb); have n5_ := Aside0.mk (Kd.R_lower (Kd.R_new' (Kd.R_new' (Kd.R_new' (Kd.R_new' ho0 (Kd.R_lt (by (with_reducible repeat (first | apply Kd.R_alloc | apply Kd.R_drewN | apply Kd.R_drew)); exact (Kd.R_mono (Kd.R_far (p := ⟨gb175, 2, none⟩) (Kd.R_far (p := ⟨gb175, 1, none⟩) (Kd.R_far (p := ⟨gb175, 0, none⟩) (Kd.R_types HO144.out BK175.out (by decide)) (fun _ hk => hk.2) (.int .i64 t170)) (fun _ hk => hk.2) (.string t171)) (fun _ hk => hk.2) (.int .i64 t172)) (fun _ h_ => h_.1))))) (Kd.R_lt (by (with_reducible repeat (first | apply Kd.R_alloc | apply Kd.R_drewN | apply Kd.R_drew)); exact (Kd.R_mono (Kd.R_far (p := ⟨gb175, 2, none⟩) (Kd.R_far (p := ⟨gb175, 1, none⟩) (Kd.R_far (p := ⟨gb175, 0, none⟩) (Kd.R_types HO149.out BK175.out (by decide)) (fun _ hk => hk.2) (.int .i64 t170)) (fun _ hk => hk.2) (.string t171)) (fun _ hk => hk.2) (.int .i64 t172)) (fun _ h_ => h_.1))))) (Kd.R_lt (by (with_reducible repeat (first | apply Kd.R_alloc | apply Kd.R_drewN | apply Kd.R_drew)); exact (Kd.R_mono (Kd.R_far (p := ⟨gb175, 2, none⟩) (Kd.R_far (p := ⟨gb175, 1, none⟩) (Kd.R_far (p := ⟨gb175, 0, none⟩) (Kd.R_types HO160.out BK175.out (by decide)) (fun _ hk => hk.2) (.int .i64 t170)) (fun _ hk => hk.2) (.string t171)) (fun _ hk => hk.2) (.int .i64 t172)) (fun _ h_ => h_.1))))) (Kd.R_lt (by (with_reducible repeat (first | apply Kd.R_alloc | apply Kd.R_drewN | apply Kd.R_drew)); exact (Kd.R_mono (Kd.R_far (p := ⟨gb175, 2, none⟩) (Kd.R_far (p := ⟨gb175, 1, none⟩) (Kd.R_far (p := ⟨gb175, 0, none⟩) (Kd.R_types HO169.out BK175.out (by decide)) (fun _ hk => hk.2) (.int .i64 t170)) (fun _ hk => hk.2) (.string t171)) (fun _ hk => hk.2) (.int .i64 t172)) (fun _ h_ => h_.1))))) (below_size (by repeat (first | (with_reducible first | exact HB.out | apply below_alloc | apply pw_below_drewN | apply below_drew1 | refine below_set ?_ GE166.out | refine below_set ?_ GE175.out) | exact HB.out)))); have n6_ := Aside0.mk (blk_below (g := gb166) (o := .cells #[.int .i64 t161, .string t162, .int .i64 t163] 29 (0, 0)) (by (with_reducible repeat (first | refine blk_drewN ?_ _ | refine blk_drew ?_ | refine blk_alloc ?_ _)); refine blk_far ?_ NB166_175.out _; (with_reducible repeat (first | refine blk_drewN ?_ _ | refine blk_drew ?_ | refine blk_alloc ?_ _)); refine blk_far ?_ NB166_175.out _; (with_reducible repeat (first | refine blk_drewN ?_ _ | refine blk_drew ?_ | refine blk_alloc ?_ _)); refine blk_far ?_ NB166_175.out _; (with_reducible repeat (first | refine blk_drewN ?_ _ | refine blk_drew ?_ | refine blk_alloc ?_ _)); exact BK166.out) hb); have n7_ := Aside0.mk (blk_below (g := gb175) (o := .cells #[.int .i64 t170, .string t171, .int .i64 t172] 29 (0, 0)) (by (with_reducible repeat (first | refine blk_drewN ?_ _ | refine blk_drew ?_ | refine blk_alloc ?_ _)); refine blk_put (cs := #[.int .i64 t170, .string t171, .int .i64 0]) ?_ 2 _ rfl; (with_reducible repeat (first | refine blk_drewN ?_ _ | refine blk_drew ?_ | refine blk_alloc ?_ _)); refine blk_put (cs := #[.int .i64 t170, .string (⟨#[]⟩ : ByteArray), .int .i64 0]) ?_ 1 _ rfl; (with_reducible repeat (first | refine blk_drewN ?_ _ | refine blk_drew ?_ | refine blk_alloc ?_ _)); refine blk_put (cs := #[.int .i64 0, .string (⟨#[]⟩ : ByteArray), .int .i64 0]) ?_ 0 _ rfl; (with_reducible repeat (first | refine blk_drewN ?_ _ | refine blk_drew ?_ | refine blk_alloc ?_ _)); exact BK175.out) hb); have n8_ := Aside0.mk (below_step (by repeat (first | (with_reducible first | exact HB.out | apply below_alloc | apply pw_below_drewN | apply below_drew1 | refine below_set ?_ GE166.out | refine below_set ?_ GE175.out) | exact HB.out)) hb); clear HO144; clear HO149; clear HO157; clear HO160; clear HO169; clear BK166; clear BK175; clear HB; have HO144 := n0_; have HO149 := n1_; have HO157 := n2_; have HO160 := n3_; have HO169 := n4_; have HO178 := n5_; have BK166 := n6_; have BK175 := n7_; have HB := n8_; clear n0_ n1_ n2_ n3_ n4_ n5_ n6_ n7_ n8_; (try clear hb); (try clear hb2); (try clear hk); (try clear hi); (try clear ho0)) | ((with_reducible refine gate_callee (f := 19) rfl ?_); refine goesL_ (some 78) rfl rfl Tryd.func19 (by kernel_rfl) rfl #[.agg #[.int .i64 3, .string (⟨#[49]⟩ : ByteArray), .int .i64 0, .int .i64 0, .int .i64 0], .agg #[.int .i64 7, .string (⟨#[46]⟩ : ByteArray), .int .i64 0, .int .i64 0, .int .i64 0]] rfl (by (try simp only [List.map_toArray, List.map_cons, List.map_nil]); first | done | rfl | (simp only [List.length_drop, List.length_take]; rfl)) ?_; (with_reducible refine (lex_Touch.calls k 3 (⟨#[49]⟩ : ByteArray) 0 0 0 7 (⟨#[46]⟩ : ByteArray) 0 0 0 t181 t182 _ ?side1 A8.out).mono ?_); (case side1 => exact HG.out _ (by repeat (first | (with_reducible first | exact HB.out | apply below_alloc | apply pw_below_drewN | apply below_drew1 | refine below_set ?_ GE166.out | refine below_set ?_ GE175.out) | exact HB.out))); rintro e w24 ⟨rfl, hb⟩; refine ⟨_, rfl, ?_⟩; have n0_ := Aside0.mk (Kd.R_below (by (with_reducible repeat (first | apply Kd.R_alloc | apply Kd.R_drewN | apply Kd.R_drew)); exact HO144.out) hb); have n1_ := Aside0.mk (Kd.R_below (by (with_reducible repeat (first | apply Kd.R_alloc | apply Kd.R_drewN | apply Kd.R_drew)); exact HO149.out) hb); have n2_ := Aside0.mk (Kd.R_below (by (with_reducible repeat (first | apply Kd.R_alloc | apply Kd.R_drewN | apply Kd.R_drew)); exact HO157.out) hb); have n3_ := Aside0.mk (Kd.R_below (by (with_reducible repeat (first | apply Kd.R_alloc | apply Kd.R_drewN | apply Kd.R_drew)); exact HO160.out) hb); have n4_ := Aside0.mk (Kd.R_below (by (with_reducible repeat (first | apply Kd.R_alloc | apply Kd.R_drewN | apply Kd.R_drew)); exact HO169.out) hb); have n5_ := Aside0.mk (Kd.R_below (by (with_reducible repeat (first | apply Kd.R_alloc | apply Kd.R_drewN | apply Kd.R_drew)); exact HO178.out) hb); have n6_ := Aside0.mk (blk_below (g := gb166) (o := .cells #[.int .i64 t161, .string t162, .int .i64 t163] 29 (0, 0)) (by (with_reducible repeat (first | refine blk_drewN ?_ _ | refine blk_drew ?_ | refine blk_alloc ?_ _)); exact BK166.out) hb); have n7_ := Aside0.mk (blk_below (g := gb175) (o := .cells #[.int .i64 t170, .string t171, .int .i64 t172] 29 (0, 0)) (by (with_reducible repeat (first | refine blk_drewN ?_ _ | refine blk_drew ?_ | refine blk_alloc ?_ _)); exact BK175.out) hb); have n8_ := Aside0.mk (below_step (by repeat (first | (with_reducible first | exact HB.out | apply below_alloc | apply pw_below_drewN | apply below_drew1 | refine below_set ?_ GE166.out | refine below_set ?_ GE175.out) | exact HB.out)) hb); clear HO144; clear HO149; clear HO157; clear HO160; clear HO169; clear HO178; clear BK166; clear BK175; clear HB; have HO144 := n0_; have HO149 := n1_; have HO157 := n2_; have HO160 := n3_; have HO169 := n4_; have HO178 := n5_; have BK166 := n6_; have BK175 := n7_; have HB := n8_; clear n0_ n1_ n2_ n3_ n4_ n5_ n6_ n7_ n8_; (try clear hb); (try clear hb2); (try clear hk); (try clear hi)) | ((with_reducible refine gate_callee (f := 21) rfl ?_); refine goesL_ (some 83) rfl rfl Tryd.func21 (by kernel_rfl) rfl #[.string (⟨#[97, 98, 32, 99, 100, 32, 101, 102]⟩ : ByteArray), .agg #[.int .i64 3, .int .i64 2, .string (⟨#[120]⟩ : ByteArray)]] rfl (by (try simp only [List.map_toArray, List.map_cons, List.map_nil]); first | done | rfl | (simp only [List.length_drop, List.length_take]; rfl)) ?_; (with_reducible refine (lex_Again.calls (⟨#[97, 98, 32, 99, 100, 32, 101, 102]⟩ : ByteArray) 3 2 (⟨#[120]⟩ : ByteArray) t183 t186 t187 t188 t189 _ ?side1 A9.out).mono ?_); (case side1 => exact HG.out _ (by repeat (first | (with_reducible first | exact HB.out | apply below_alloc | apply pw_below_drewN | apply below_drew1 | refine below_set ?_ GE166.out | refine below_set ?_ GE175.out) | exact HB.out))); rintro e w25 ⟨v184, rfl, ho0, hb⟩; refine ⟨_, rfl, ?_⟩; have n0_ := Aside0.mk (Kd.R_elder' (by (with_reducible repeat (first | apply Kd.R_alloc | apply Kd.R_drewN | apply Kd.R_drew)); exact HO144.out) (Kd.R_base ho0) hb); have n1_ := Aside0.mk (Kd.R_elder' (by (with_reducible repeat (first | apply Kd.R_alloc | apply Kd.R_drewN | apply Kd.R_drew)); exact HO149.out) (Kd.R_base ho0) hb); have n2_ := Aside0.mk (Kd.R_below (by (with_reducible repeat (first | apply Kd.R_alloc | apply Kd.R_drewN | apply Kd.R_drew)); exact HO157.out) hb); have n3_ := Aside0.mk (Kd.R_elder' (by (with_reducible repeat (first | apply Kd.R_alloc | apply Kd.R_drewN | apply Kd.R_drew)); exact HO160.out) (Kd.R_base ho0) hb); have n4_ := Aside0.mk (Kd.R_elder' (by (with_reducible repeat (first | apply Kd.R_alloc | apply Kd.R_drewN | apply Kd.R_drew)); exact HO169.out) (Kd.R_base ho0) hb); have n5_ := Aside0.mk (Kd.R_elder' (by (with_reducible repeat (first | apply Kd.R_alloc | apply Kd.R_drewN | apply Kd.R_drew)); exact HO178.out) (Kd.R_base ho0) hb); have n6_ := Aside0.mk (Kd.R_lower (Kd.R_new' (Kd.R_new' (Kd.R_new' (Kd.R_new' (Kd.R_new' ho0 (Kd.R_lt (by (with_reducible repeat (first | apply Kd.R_alloc | apply Kd.R_drewN | apply Kd.R_drew)); exact HO144.out))) (Kd.R_lt (by (with_reducible repeat (first | apply Kd.R_alloc | apply Kd.R_drewN | apply Kd.R_drew)); exact HO149.out))) (Kd.R_lt (by (with_reducible repeat (first | apply Kd.R_alloc | apply Kd.R_drewN | apply Kd.R_drew)); exact HO160.out))) (Kd.R_lt (by (with_reducible repeat (first | apply Kd.R_alloc | apply Kd.R_drewN | apply Kd.R_drew)); exact HO169.out))) (Kd.R_lt (by (with_reducible repeat (first | apply Kd.R_alloc | apply Kd.R_drewN | apply Kd.R_drew)); exact HO178.out))) (below_size (by repeat (first | (with_reducible first | exact HB.out | apply below_alloc | apply pw_below_drewN | apply below_drew1 | refine below_set ?_ GE166.out | refine below_set ?_ GE175.out) | exact HB.out)))); have n7_ := Aside0.mk (blk_below (g := gb166) (o := .cells #[.int .i64 t161, .string t162, .int .i64 t163] 29 (0, 0)) (by (with_reducible repeat (first | refine blk_drewN ?_ _ | refine blk_drew ?_ | refine blk_alloc ?_ _)); exact BK166.out) hb); have n8_ := Aside0.mk (blk_below (g := gb175) (o := .cells #[.int .i64 t170, .string t171, .int .i64 t172] 29 (0, 0)) (by (with_reducible repeat (first | refine blk_drewN ?_ _ | refine blk_drew ?_ | refine blk_alloc ?_ _)); exact BK175.out) hb); have n9_ := Aside0.mk (below_step (by repeat (first | (with_reducible first | exact HB.out | apply below_alloc | apply pw_below_drewN | apply below_drew1 | refine below_set ?_ GE166.out | refine below_set ?_ GE175.out) | exact HB.out)) hb); clear HO144; clear HO149; clear HO157; clear HO160; clear HO169; clear HO178; clear BK166; clear BK175; clear HB; have HO144 := n0_; have HO149 := n1_; have HO157 := n2_; have HO160 := n3_; have HO169 := n4_; have HO178 := n5_; have HO185 := n6_; have BK166 := n7_; have BK175 := n8_; have HB := n9_; clear n0_ n1_ n2_ n3_ n4_ n5_ n6_ n7_ n8_ n9_; (try clear hb); (try clear hb2); (try clear hk); (try clear hi); (try clear ho0); obtain ⟨Ao26, co26, eo26⟩ := Kd.R_slice HO144.out; subst eo26) | ((with_reducible refine gate_callee (f := 17) rfl ?_); refine goesL_ (some 91) rfl rfl Tryd.func17 (by kernel_rfl) rfl #[.slice Ao26 t140.length co26] rfl (by (try simp only [List.map_toArray, List.map_cons, List.map_nil]); first | done | rfl | (simp only [List.length_drop, List.length_take]; rfl)) ?_; (with_reducible refine (lex_Print.calls _ _ t140 t190 t191 t192 _ ?side3 ?side1 ?side2 A10.out).mono ?_); (case side1 => repeat (first | exact (Kd.R_reads' HO144.out).2.2 | (with_reducible refine Kd.C_alloc ?_ _) | (with_reducible refine Kd.C_drewN ?_ _) | (with_reducible refine Kd.C_drew ?_))); (case side2 => exact (Kd.R_reads' HO144.out).2.1); (case side3 => exact HG.out _ (by repeat (first | (with_reducible first | exact HB.out | apply below_alloc | apply pw_below_drewN | apply below_drew1 | refine below_set ?_ GE166.out | refine below_set ?_ GE175.out) | exact HB.out))); rintro e w27 ⟨rfl, hb⟩; refine ⟨_, rfl, ?_⟩; have n0_ := Aside0.mk (Kd.R_below (by (with_reducible repeat (first | apply Kd.R_alloc | apply Kd.R_drewN | apply Kd.R_drew)); exact HO144.out) hb); have n1_ := Aside0.mk (Kd.R_below (by (with_reducible repeat (first | apply Kd.R_alloc | apply Kd.R_drewN | apply Kd.R_drew)); exact HO149.out) hb); have n2_ := Aside0.mk (Kd.R_below (by (with_reducible repeat (first | apply Kd.R_alloc | apply Kd.R_drewN | apply Kd.R_drew)); exact HO157.out) hb); have n3_ := Aside0.mk (Kd.R_below (by (with_reducible repeat (first | apply Kd.R_alloc | apply Kd.R_drewN | apply Kd.R_drew)); exact HO160.out) hb); have n4_ := Aside0.mk (Kd.R_below (by (with_reducible repeat (first | apply Kd.R_alloc | apply Kd.R_drewN | apply Kd.R_drew)); exact HO169.out) hb); have n5_ := Aside0.mk (Kd.R_below (by (with_reducible repeat (first | apply Kd.R_alloc | apply Kd.R_drewN | apply Kd.R_drew)); exact HO178.out) hb); have n6_ := Aside0.mk (Kd.R_below (by (with_reducible repeat (first | apply Kd.R_alloc | apply Kd.R_drewN | apply Kd.R_drew)); exact HO185.out) hb); have n7_ := Aside0.mk (blk_below (g := gb166) (o := .cells #[.int .i64 t161, .string t162, .int .i64 t163] 29 (0, 0)) (by (with_reducible repeat (first | refine blk_drewN ?_ _ | refine blk_drew ?_ | refine blk_alloc ?_ _)); exact BK166.out) hb); have n8_ := Aside0.mk (blk_below (g := gb175) (o := .cells #[.int .i64 t170, .string t171, .int .i64 t172] 29 (0, 0)) (by (with_reducible repeat (first | refine blk_drewN ?_ _ | refine blk_drew ?_ | refine blk_alloc ?_ _)); exact BK175.out) hb); have n9_ := Aside0.mk (below_step (by repeat (first | (with_reducible first | exact HB.out | apply below_alloc | apply pw_below_drewN | apply below_drew1 | refine below_set ?_ GE166.out | refine below_set ?_ GE175.out) | exact HB.out)) hb); clear HO144; clear HO149; clear HO157; clear HO160; clear HO169; clear HO178; clear HO185; clear BK166; clear BK175; clear HB; have HO144 := n0_; have HO149 := n1_; have HO157 := n2_; have HO160 := n3_; have HO169 := n4_; have HO178 := n5_; have HO185 := n6_; have BK166 := n7_; have BK175 := n8_; have HB := n9_; clear n0_ n1_ n2_ n3_ n4_ n5_ n6_ n7_ n8_ n9_; (try clear hb); (try clear hb2); (try clear hk); (try clear hi)))
 (try simp only [Act.put, List.setIfInBounds_toArray, List.set_cons_zero, List.set_cons_succ])
 go_cut [136] (fun v136 wc => ∃ (kq : Nat) (x136_10 : Bool), v136 = .bool x136_10 ∧ Aside0 (mjolnerlaw04_sane.j0 kq t140 t150 t153 t158 t167 t176 t181 t183 t186 t187 t190 x136_10 t161 t162 t163 t170 t171 t172 = some r) ∧ Aside0 (kq ≤ k) ∧ Aside0 (Kd.R k42 42 wc w.heap.size (fun k_ => some k_ ≠ (v159 : Value).ownBlock ∧ some k_ ≠ (v168 : Value).ownBlock ∧ some k_ ≠ (v177 : Value).ownBlock ∧ some k_ ≠ (v184 : Value).ownBlock) (.slice Ao26 t140.length co26) t140) ∧ Aside0 (Kd.R k40 40 wc w.heap.size (fun _ => True) v156 t153) ∧ Aside0 (Kd.R k42 42 wc w.heap.size (fun k_ => some k_ ≠ ((.slice Ao26 t140.length co26) : Value).ownBlock ∧ some k_ ≠ (v168 : Value).ownBlock ∧ some k_ ≠ (v177 : Value).ownBlock ∧ some k_ ≠ (v184 : Value).ownBlock) v159 t158) ∧ Aside0 (Kd.R k42 42 wc w.heap.size (fun k_ => some k_ ≠ ((.slice Ao26 t140.length co26) : Value).ownBlock ∧ some k_ ≠ (v159 : Value).ownBlock ∧ some k_ ≠ (v177 : Value).ownBlock ∧ some k_ ≠ (v184 : Value).ownBlock) v168 t167) ∧ Aside0 (Kd.R k42 42 wc w.heap.size (fun k_ => some k_ ≠ ((.slice Ao26 t140.length co26) : Value).ownBlock ∧ some k_ ≠ (v159 : Value).ownBlock ∧ some k_ ≠ (v168 : Value).ownBlock ∧ some k_ ≠ (v184 : Value).ownBlock) v177 t176) ∧ Aside0 (Kd.R k42 42 wc w.heap.size (fun k_ => some k_ ≠ ((.slice Ao26 t140.length co26) : Value).ownBlock ∧ some k_ ≠ (v159 : Value).ownBlock ∧ some k_ ≠ (v168 : Value).ownBlock ∧ some k_ ≠ (v177 : Value).ownBlock) v184 t183) ∧ Aside0 (wc.heap[gb166]? = some (.cells #[.int .i64 t161, .string t162, .int .i64 t163] 29 (0, 0))) ∧ Aside0 (wc.heap[gb175]? = some (.cells #[.int .i64 t170, .string t171, .int .i64 t172] 29 (0, 0))) ∧ Aside0 (Below w.heap.size w wc))
 case first =>
  have H := HC11.out
  clear HC11
  by_cases c28 : t141 = 0
  ·rw [if_pos c28] at H
   have c28b0 : (t141 == 0) = true := beq_iff_eq.mpr c28
   have c28b1 : (t141 != 0) = false := bne_eq_false_iff_eq.mpr c28
   clear c28
   (first | rw [c28b0] | (simp only [i64_w, i32_w]; rw [c28b0]) | rw [c28b1] | skip)
   by_cases c29 : t146 = 7
   ·rw [if_pos c29] at H
    have c29b0 : (t146 == 7) = true := beq_iff_eq.mpr c29
    have c29b1 : (t146 != 7) = false := bne_eq_false_iff_eq.mpr c29
    clear c29
    by_cases c30 : t147 = 2
    ·rw [if_pos c30] at H
     have c30b0 : (t147 == 2) = true := beq_iff_eq.mpr c30
     have c30b1 : (t147 != 2) = false := bne_eq_false_iff_eq.mpr c30
     clear c30
     by_cases c31 : t151 = 0
     ·rw [if_pos c31] at H
      have c31b0 : (t151 == 0) = true := beq_iff_eq.mpr c31
      have c31b1 : (t151 != 0) = false := bne_eq_false_iff_eq.mpr c31
      clear c31
      by_cases c32 : t154 = 0
      ·rw [if_pos c32] at H
       have c32b0 : (t154 == 0) = true := beq_iff_eq.mpr c32
       have c32b1 : (t154 != 0) = false := bne_eq_false_iff_eq.mpr c32
       clear c32
       by_cases c33 : t164 = 0
       ·rw [if_pos c33] at H
        have c33b0 : (t164 == 0) = true := beq_iff_eq.mpr c33
        have c33b1 : (t164 != 0) = false := bne_eq_false_iff_eq.mpr c33
        clear c33
        by_cases c34 : t173 = 0
        ·rw [if_pos c34] at H
         have c34b0 : (t173 == 0) = true := beq_iff_eq.mpr c34
         have c34b1 : (t173 != 0) = false := bne_eq_false_iff_eq.mpr c34
         clear c34
         by_cases c35 : t179 = 0
         ·rw [if_pos c35] at H
          have c35b0 : (t179 == 0) = true := beq_iff_eq.mpr c35
          have c35b1 : (t179 != 0) = false := bne_eq_false_iff_eq.mpr c35
          clear c35
          by_cases c36 : t182 = 0
          ·rw [if_pos c36] at H
           have c36b0 : (t182 == 0) = true := beq_iff_eq.mpr c36
           have c36b1 : (t182 != 0) = false := bne_eq_false_iff_eq.mpr c36
           clear c36
           by_cases c37 : t188 = 0
           ·rw [if_pos c37] at H
            have c37b0 : (t188 == 0) = true := beq_iff_eq.mpr c37
            have c37b1 : (t188 != 0) = false := bne_eq_false_iff_eq.mpr c37
            clear c37
            have H' := Aside0.mk H
            clear H
            go_wp2
            go_meet
            case rel => exact ⟨_, ((t191 != 0)), (by first | rfl | (simp; done) | (simp [*]; done)), H', ⟨by first | omega | exact Nat.le_refl _⟩, ⟨by (with_reducible repeat (first | apply Kd.R_alloc | apply Kd.R_drewN | apply Kd.R_drew)); exact Kd.R_mono HO144.out (fun _ hk => ⟨hk.1.1.1.2, ⟨hk.1.1.2, ⟨hk.1.2, hk.2⟩⟩⟩)⟩, ⟨by (with_reducible repeat (first | apply Kd.R_alloc | apply Kd.R_drewN | apply Kd.R_drew)); exact HO157.out⟩, ⟨by (with_reducible repeat (first | apply Kd.R_alloc | apply Kd.R_drewN | apply Kd.R_drew)); exact Kd.R_mono HO160.out (fun _ hk => ⟨hk.1.1.1.1.2, ⟨hk.1.1.2, ⟨hk.1.2, hk.2⟩⟩⟩)⟩, ⟨by (with_reducible repeat (first | apply Kd.R_alloc | apply Kd.R_drewN | apply Kd.R_drew)); exact Kd.R_mono HO169.out (fun _ hk => ⟨hk.1.1.1.1.2, ⟨hk.1.1.2, ⟨hk.1.2, hk.2⟩⟩⟩)⟩, ⟨by (with_reducible repeat (first | apply Kd.R_alloc | apply Kd.R_drewN | apply Kd.R_drew)); exact Kd.R_mono HO178.out (fun _ hk => ⟨hk.1.1.1.1.2, ⟨hk.1.1.2, ⟨hk.1.2, hk.2⟩⟩⟩)⟩, ⟨by (with_reducible repeat (first | apply Kd.R_alloc | apply Kd.R_drewN | apply Kd.R_drew)); exact Kd.R_mono HO185.out (fun _ hk => ⟨hk.1.1.1.1.2, ⟨hk.1.1.2, ⟨hk.1.2, hk.2⟩⟩⟩)⟩, ⟨by (with_reducible repeat (first | refine blk_drewN ?_ _ | refine blk_drew ?_ | refine blk_alloc ?_ _)); exact BK166.out⟩, ⟨by (with_reducible repeat (first | refine blk_drewN ?_ _ | refine blk_drew ?_ | refine blk_alloc ?_ _)); exact BK175.out⟩, ⟨by repeat (first | (with_reducible first | exact HB.out | apply below_alloc | apply pw_below_drewN | apply below_drew1 | refine below_set ?_ GE166.out | refine below_set ?_ GE175.out) | exact HB.out)⟩⟩
           ·rw [if_neg c37] at H
            first | exact absurd (H.trans (congrArg some HRT.out)) (by simp) | exact absurd (H.trans (congrArg some HRT.out)) (mjolnerlaw04_sane.j0_true _ _ _ _ _ _ _ _ _ _ _ _ _ _ _ _ _ _)
          ·rw [if_neg c36] at H
           first | exact absurd (H.trans (congrArg some HRT.out)) (by simp) | exact absurd (H.trans (congrArg some HRT.out)) (mjolnerlaw04_sane.j0_true _ _ _ _ _ _ _ _ _ _ _ _ _ _ _ _ _ _)
         ·rw [if_neg c35] at H
          first | exact absurd (H.trans (congrArg some HRT.out)) (by simp) | exact absurd (H.trans (congrArg some HRT.out)) (mjolnerlaw04_sane.j0_true _ _ _ _ _ _ _ _ _ _ _ _ _ _ _ _ _ _)
        ·rw [if_neg c34] at H
         first | exact absurd (H.trans (congrArg some HRT.out)) (by simp) | exact absurd (H.trans (congrArg some HRT.out)) (mjolnerlaw04_sane.j0_true _ _ _ _ _ _ _ _ _ _ _ _ _ _ _ _ _ _)
       ·rw [if_neg c33] at H
        first | exact absurd (H.trans (congrArg some HRT.out)) (by simp) | exact absurd (H.trans (congrArg some HRT.out)) (mjolnerlaw04_sane.j0_true _ _ _ _ _ _ _ _ _ _ _ _ _ _ _ _ _ _)
      ·rw [if_neg c32] at H
       first | exact absurd (H.trans (congrArg some HRT.out)) (by simp) | exact absurd (H.trans (congrArg some HRT.out)) (mjolnerlaw04_sane.j0_true _ _ _ _ _ _ _ _ _ _ _ _ _ _ _ _ _ _)
     ·rw [if_neg c31] at H
      first | exact absurd (H.trans (congrArg some HRT.out)) (by simp) | exact absurd (H.trans (congrArg some HRT.out)) (mjolnerlaw04_sane.j0_true _ _ _ _ _ _ _ _ _ _ _ _ _ _ _ _ _ _)
    ·rw [if_neg c30] at H
     first | exact absurd (H.trans (congrArg some HRT.out)) (by simp) | exact absurd (H.trans (congrArg some HRT.out)) (mjolnerlaw04_sane.j0_true _ _ _ _ _ _ _ _ _ _ _ _ _ _ _ _ _ _)
   ·rw [if_neg c29] at H
    first | exact absurd (H.trans (congrArg some HRT.out)) (by simp) | exact absurd (H.trans (congrArg some HRT.out)) (mjolnerlaw04_sane.j0_true _ _ _ _ _ _ _ _ _ _ _ _ _ _ _ _ _ _)
  ·rw [if_neg c28] at H
   first | exact absurd (H.trans (congrArg some HRT.out)) (by simp) | exact absurd (H.trans (congrArg some HRT.out)) (mjolnerlaw04_sane.j0_true _ _ _ _ _ _ _ _ _ _ _ _ _ _ _ _ _ _)
 case rest =>
  clear HC11
  try clear c1
  try clear c2
  try clear p2
  try clear c3
  try clear c10
  try clear c11
  try clear c14
  try clear c15
  try clear c17
  try clear c19
  try clear c21
  try clear c24
  try clear c26
  try clear c28
  try clear c28b0
  try clear c28b1
  try clear c29
  try clear c29b0
  try clear c29b1
  try clear c30
  try clear c30b0
  try clear c30b1
  try clear c31
  try clear c31b0
  try clear c31b1
  try clear c32
  try clear c32b0
  try clear c32b1
  try clear c33
  try clear c33b0
  try clear c33b1
  try clear c34
  try clear c34b0
  try clear c34b1
  try clear c35
  try clear c35b0
  try clear c35b1
  try clear c36
  try clear c36b0
  try clear c36b1
  try clear c37
  try clear c37b0
  try clear c37b1
  try clear hcz18_0
  try clear hcz18_1
  try clear hcz18_2
  try clear hcz22_0
  try clear hcz22_1
  try clear hcz22_2
  try clear hfz18_0
  try clear hfz18_1
  try clear hfz18_2
  try clear hfz22_0
  try clear hfz22_1
  try clear hfz22_2
  obtain ⟨kq, x136_10, rfl, HA, HJ10, HO_1, HO_10, HO_13, HO_17, HO_21, HO_26, BK166, BK175, HB⟩ := hcut
  cases kq with
  | zero => exact absurd HA.out (by simp [mjolnerlaw04_sane.j0])
  | succ kj10 =>
   have H := HA.out
   clear HA
   simp only [mjolnerlaw04_sane.j0] at H
   by_cases c38 : x136_10 = true
   ·subst c38
    have H1 : (some false) = some r := by rw [if_pos rfl] at H; exact H
    clear H
    have H := H1
    clear H1
    first | exact absurd (H.trans (congrArg some HRT.out)) (by simp) | exact absurd (H.trans (congrArg some HRT.out)) (mjolnerlaw04_sane.j0_true _ _ _ _ _ _ _ _ _ _ _ _ _ _ _ _ _ _)
   ·replace c38 := Bool.eq_false_iff.mpr c38
    subst c38
    have H1 : (if (t140.length : Int) = 5 then (if (t153.length : Int) = 4 then (if (t158.length : Int) = 1 then (if (t167.length : Int) = 2 then (if (t176.length : Int) = 1 then (if (t183.length : Int) = 3 then (if t181 = true then (if t186 = 1 then (if t187 = 1 then (if 1 < (t140.length : Int) then (if ((rd_T42 t140 1).f1).toList = ([58, 58, 60] : List UInt8) then (if 3 < (t140.length : Int) then (if ((rd_T42 t140 3).f0) = 4 then (if ((rd_T42 t140 3).f4) = 12 then (if t150.toList = ([97, 32, 32, 32, 10, 32, 32, 99] : List UInt8) then (if 1 < (t153.length : Int) then (if (((rd_T40 t153 1).f0) == 2 && (((rd_T40 t153 1).f1) == 1 && (((rd_T40 t153 1).f2) == 6))) = true then (if t190.toList = ([120, 49, 32, 58, 58, 60, 32, 40, 35, 32, 49, 46, 53, 101, 50, 32, 35, 41] : List UInt8) then (if (t161 == 3 && (t162.toList == ([49, 46] : List UInt8) && (t163 == 1))) = true then (if (t170 == 5 && (t171.toList == ([120] : List UInt8) && (t172 == 3))) = true then (if 1 < (t167.length : Int) then (if ((rd_T42 t167 1).f3) = 4 then (if 0 < (t176.length : Int) then (if ((rd_T42 t176 0).f3) = 5 then (if 1 < (t183.length : Int) then (some (((rd_T42 t183 1).f1).toList == ([120] : List UInt8))) else (none)) else (some false)) else (none)) else (some false)) else (none)) else (some false)) else (some false)) else (some false)) else (some false)) else (none)) else (some false)) else (some false)) else (some false)) else (none)) else (some false)) else (none)) else (some false)) else (some false)) else (some false)) else (some false)) else (some false)) else (some false)) else (some false)) else (some false)) else (some false)) = some r := by rw [if_neg (show ¬ (false = true) by decide)] at H; exact H
    clear H
    have H := H1
    clear H1
    by_cases c39 : (t140.length : Int) = 5
    ·rw [if_pos c39] at H
     have c39b0 : ((t140.length : Int) == 5) = true := beq_iff_eq.mpr c39
     have c39b1 : ((t140.length : Int) != 5) = false := bne_eq_false_iff_eq.mpr c39
     clear c39
     by_cases c40 : (t153.length : Int) = 4
     ·rw [if_pos c40] at H
      have c40b0 : ((t153.length : Int) == 4) = true := beq_iff_eq.mpr c40
      have c40b1 : ((t153.length : Int) != 4) = false := bne_eq_false_iff_eq.mpr c40
      clear c40
      by_cases c41 : (t158.length : Int) = 1
      ·rw [if_pos c41] at H
       have c41b0 : ((t158.length : Int) == 1) = true := beq_iff_eq.mpr c41
       have c41b1 : ((t158.length : Int) != 1) = false := bne_eq_false_iff_eq.mpr c41
       clear c41
       by_cases c42 : (t167.length : Int) = 2
       ·rw [if_pos c42] at H
        have c42b0 : ((t167.length : Int) == 2) = true := beq_iff_eq.mpr c42
        have c42b1 : ((t167.length : Int) != 2) = false := bne_eq_false_iff_eq.mpr c42
        clear c42
        by_cases c43 : (t176.length : Int) = 1
        ·rw [if_pos c43] at H
         have c43b0 : ((t176.length : Int) == 1) = true := beq_iff_eq.mpr c43
         have c43b1 : ((t176.length : Int) != 1) = false := bne_eq_false_iff_eq.mpr c43
         clear c43
         by_cases c44 : (t183.length : Int) = 3
         ·rw [if_pos c44] at H
          have c44b0 : ((t183.length : Int) == 3) = true := beq_iff_eq.mpr c44
          have c44b1 : ((t183.length : Int) != 3) = false := bne_eq_false_iff_eq.mpr c44
          clear c44
          by_cases c45 : t181 = true
          ·subst c45
           have H1 : (if t186 = 1 then (if t187 = 1 then (if 1 < (t140.length : Int) then (if ((rd_T42 t140 1).f1).toList = ([58, 58, 60] : List UInt8) then (if 3 < (t140.length : Int) then (if ((rd_T42 t140 3).f0) = 4 then (if ((rd_T42 t140 3).f4) = 12 then (if t150.toList = ([97, 32, 32, 32, 10, 32, 32, 99] : List UInt8) then (if 1 < (t153.length : Int) then (if (((rd_T40 t153 1).f0) == 2 && (((rd_T40 t153 1).f1) == 1 && (((rd_T40 t153 1).f2) == 6))) = true then (if t190.toList = ([120, 49, 32, 58, 58, 60, 32, 40, 35, 32, 49, 46, 53, 101, 50, 32, 35, 41] : List UInt8) then (if (t161 == 3 && (t162.toList == ([49, 46] : List UInt8) && (t163 == 1))) = true then (if (t170 == 5 && (t171.toList == ([120] : List UInt8) && (t172 == 3))) = true then (if 1 < (t167.length : Int) then (if ((rd_T42 t167 1).f3) = 4 then (if 0 < (t176.length : Int) then (if ((rd_T42 t176 0).f3) = 5 then (if 1 < (t183.length : Int) then (some (((rd_T42 t183 1).f1).toList == ([120] : List UInt8))) else (none)) else (some false)) else (none)) else (some false)) else (none)) else (some false)) else (some false)) else (some false)) else (some false)) else (none)) else (some false)) else (some false)) else (some false)) else (none)) else (some false)) else (none)) else (some false)) else (some false)) = some r := by rw [if_pos rfl] at H; exact H
           clear H
           have H := H1
           clear H1
           by_cases c46 : t186 = 1
           ·rw [if_pos c46] at H
            have c46b0 : (t186 == 1) = true := beq_iff_eq.mpr c46
            have c46b1 : (t186 != 1) = false := bne_eq_false_iff_eq.mpr c46
            clear c46
            by_cases c47 : t187 = 1
            ·rw [if_pos c47] at H
             have c47b0 : (t187 == 1) = true := beq_iff_eq.mpr c47
             have c47b1 : (t187 != 1) = false := bne_eq_false_iff_eq.mpr c47
             clear c47
             by_cases c48 : 1 < (t140.length : Int)
             ·rw [if_pos c48] at H
              have c48b0 : decide (1 < (t140.length : Int)) = true := decide_eq_true c48
              have c48b1 : decide (1 < t140.length) = true := decide_eq_true (by omega)
              clear c48
              by_cases c49 : ((rd_T42 t140 1).f1).toList = ([58, 58, 60] : List UInt8)
              ·rw [if_pos c49] at H
               have c49b0 : (((rd_T42 t140 1).f1).toList == ([58, 58, 60] : List UInt8)) = true := beq_iff_eq.mpr c49
               have c49b1 : (((rd_T42 t140 1).f1).toList != ([58, 58, 60] : List UInt8)) = false := bne_eq_false_iff_eq.mpr c49
               clear c49
               by_cases c50 : 3 < (t140.length : Int)
               ·rw [if_pos c50] at H
                have c50b0 : decide (3 < (t140.length : Int)) = true := decide_eq_true c50
                have c50b1 : decide (3 < t140.length) = true := decide_eq_true (by omega)
                clear c50
                by_cases c51 : ((rd_T42 t140 3).f0) = 4
                ·rw [if_pos c51] at H
                 have c51b0 : (((rd_T42 t140 3).f0) == 4) = true := beq_iff_eq.mpr c51
                 have c51b1 : (((rd_T42 t140 3).f0) != 4) = false := bne_eq_false_iff_eq.mpr c51
                 clear c51
                 by_cases c52 : ((rd_T42 t140 3).f4) = 12
                 ·rw [if_pos c52] at H
                  have c52b0 : (((rd_T42 t140 3).f4) == 12) = true := beq_iff_eq.mpr c52
                  have c52b1 : (((rd_T42 t140 3).f4) != 12) = false := bne_eq_false_iff_eq.mpr c52
                  clear c52
                  by_cases c53 : t150.toList = ([97, 32, 32, 32, 10, 32, 32, 99] : List UInt8)
                  ·rw [if_pos c53] at H
                   have c53b0 : (t150.toList == ([97, 32, 32, 32, 10, 32, 32, 99] : List UInt8)) = true := beq_iff_eq.mpr c53
                   have c53b1 : (t150.toList != ([97, 32, 32, 32, 10, 32, 32, 99] : List UInt8)) = false := bne_eq_false_iff_eq.mpr c53
                   clear c53
                   by_cases c54 : 1 < (t153.length : Int)
                   ·rw [if_pos c54] at H
                    have c54b0 : decide (1 < (t153.length : Int)) = true := decide_eq_true c54
                    have c54b1 : decide (1 < t153.length) = true := decide_eq_true (by omega)
                    clear c54
                    by_cases c55 : (((rd_T40 t153 1).f0) == 2 && (((rd_T40 t153 1).f1) == 1 && (((rd_T40 t153 1).f2) == 6))) = true
                    ·rw [if_pos c55] at H
                     have c55b0 : (((rd_T40 t153 1).f0) == 2 && (((rd_T40 t153 1).f1) == 1 && (((rd_T40 t153 1).f2) == 6))) = true := c55
                     (try (have c55b1 : decide (((rd_T40 t153 1).f0) = 2 && (((rd_T40 t153 1).f1) == 1 && (((rd_T40 t153 1).f2) == 6))) = true := by simpa using c55))
                     (try (have c55b2 : (((rd_T40 t153 1).f0) == 2 && (((rd_T40 t153 1).f1) == 1 && (((rd_T40 t153 1).f2) == 6))) = true := by simpa using c55))
                     clear c55
                     by_cases c56 : t190.toList = ([120, 49, 32, 58, 58, 60, 32, 40, 35, 32, 49, 46, 53, 101, 50, 32, 35, 41] : List UInt8)
                     ·rw [if_pos c56] at H
                      have c56b0 : (t190.toList == ([120, 49, 32, 58, 58, 60, 32, 40, 35, 32, 49, 46, 53, 101, 50, 32, 35, 41] : List UInt8)) = true := beq_iff_eq.mpr c56
                      have c56b1 : (t190.toList != ([120, 49, 32, 58, 58, 60, 32, 40, 35, 32, 49, 46, 53, 101, 50, 32, 35, 41] : List UInt8)) = false := bne_eq_false_iff_eq.mpr c56
                      clear c56
                      by_cases c57 : (t161 == 3 && (t162.toList == ([49, 46] : List UInt8) && (t163 == 1))) = true
                      ·rw [if_pos c57] at H
                       have c57b0 : (t161 == 3 && (t162.toList == ([49, 46] : List UInt8) && (t163 == 1))) = true := c57
                       (try (have c57b1 : decide (t161 = 3 && (t162.toList == ([49, 46] : List UInt8) && (t163 == 1))) = true := by simpa using c57))
                       (try (have c57b2 : (t161 == 3 && (t162.toList == ([49, 46] : List UInt8) && (t163 == 1))) = true := by simpa using c57))
                       clear c57
                       by_cases c58 : (t170 == 5 && (t171.toList == ([120] : List UInt8) && (t172 == 3))) = true
                       ·rw [if_pos c58] at H
                        have c58b0 : (t170 == 5 && (t171.toList == ([120] : List UInt8) && (t172 == 3))) = true := c58
                        (try (have c58b1 : decide (t170 = 5 && (t171.toList == ([120] : List UInt8) && (t172 == 3))) = true := by simpa using c58))
                        (try (have c58b2 : (t170 == 5 && (t171.toList == ([120] : List UInt8) && (t172 == 3))) = true := by simpa using c58))
                        clear c58
                        by_cases c59 : 1 < (t167.length : Int)
                        ·rw [if_pos c59] at H
                         have c59b0 : decide (1 < (t167.length : Int)) = true := decide_eq_true c59
                         have c59b1 : decide (1 < t167.length) = true := decide_eq_true (by omega)
                         clear c59
                         by_cases c60 : ((rd_T42 t167 1).f3) = 4
                         ·rw [if_pos c60] at H
                          have c60b0 : (((rd_T42 t167 1).f3) == 4) = true := beq_iff_eq.mpr c60
                          have c60b1 : (((rd_T42 t167 1).f3) != 4) = false := bne_eq_false_iff_eq.mpr c60
                          clear c60
                          by_cases c61 : 0 < (t176.length : Int)
                          ·rw [if_pos c61] at H
                           have c61b0 : decide (0 < (t176.length : Int)) = true := decide_eq_true c61
                           have c61b1 : decide (0 < t176.length) = true := decide_eq_true (by omega)
                           clear c61
                           by_cases c62 : ((rd_T42 t176 0).f3) = 5
                           ·rw [if_pos c62] at H
                            have c62b0 : (((rd_T42 t176 0).f3) == 5) = true := beq_iff_eq.mpr c62
                            have c62b1 : (((rd_T42 t176 0).f3) != 5) = false := bne_eq_false_iff_eq.mpr c62
                            clear c62
                            by_cases c63 : 1 < (t183.length : Int)
                            ·rw [if_pos c63] at H
                             have c63b0 : decide (1 < (t183.length : Int)) = true := decide_eq_true c63
                             have c63b1 : decide (1 < t183.length) = true := decide_eq_true (by omega)
                             clear c63
                             obtain rfl := Option.some.inj H
                             obtain ⟨Ao64, co64, eo64⟩ := Kd.R_slice HO_10.out
                             subst eo64
                             obtain ⟨Ao65, co65, eo65⟩ := Kd.R_slice HO_13.out
                             subst eo65
                             obtain ⟨Ao66, co66, eo66⟩ := Kd.R_slice HO_17.out
                             subst eo66
                             obtain ⟨Ao67, co67, eo67⟩ := Kd.R_slice HO_21.out
                             subst eo67
                             obtain ⟨Ao68, co68, eo68⟩ := Kd.R_slice HO_26.out
                             subst eo68
                             have p193 : 0 ≤ (1 : Int) := (by omega)
                             have q193 : 1 < (t140.length : Int) := of_decide_eq_true (by first | (with_reducible assumption) | assumption)
                             obtain ⟨ad193, e193, hx193_0, hx193_1, hx193_2, hx193_3, hx193_4⟩ := at_T42 (Kd.R_reads' HO_1.out).2.2 1 p193 q193
                             cases e193
                             (try simp only [show (1 : Int).toNat = 1 from rfl, Nat.reduceMul, Nat.reduceEqDiff, Go.Addr.add, ↓reduceIte] at hx193_0)
                             (try simp only [show (1 : Int).toNat = 1 from rfl, Nat.reduceMul, Nat.reduceEqDiff, Go.Addr.add, ↓reduceIte] at hx193_1)
                             (try simp only [show (1 : Int).toNat = 1 from rfl, Nat.reduceMul, Nat.reduceEqDiff, Go.Addr.add, ↓reduceIte] at hx193_2)
                             (try simp only [show (1 : Int).toNat = 1 from rfl, Nat.reduceMul, Nat.reduceEqDiff, Go.Addr.add, ↓reduceIte] at hx193_3)
                             (try simp only [show (1 : Int).toNat = 1 from rfl, Nat.reduceMul, Nat.reduceEqDiff, Go.Addr.add, ↓reduceIte] at hx193_4)
                             have qi193 : (1 < t140.length) = True := eq_true (by omega)
                             (try rw [show ((1 : Int)).toNat = 1 from rfl] at hx193_0)
                             (try rw [show 1 * 5 = 5 from rfl] at hx193_0)
                             (try rw [show ((1 : Int)).toNat = 1 from rfl] at hx193_1)
                             (try rw [show 1 * 5 = 5 from rfl] at hx193_1)
                             (try rw [show ((1 : Int)).toNat = 1 from rfl] at hx193_2)
                             (try rw [show 1 * 5 = 5 from rfl] at hx193_2)
                             (try rw [show ((1 : Int)).toNat = 1 from rfl] at hx193_3)
                             (try rw [show 1 * 5 = 5 from rfl] at hx193_3)
                             (try rw [show ((1 : Int)).toNat = 1 from rfl] at hx193_4)
                             (try rw [show 1 * 5 = 5 from rfl] at hx193_4)
                             replace p193 := eq_true p193
                             replace q193 := eq_true q193
                             have p194 : 0 ≤ (3 : Int) := (by omega)
                             have q194 : 3 < (t140.length : Int) := of_decide_eq_true (by first | (with_reducible assumption) | assumption)
                             obtain ⟨ad194, e194, hx194_0, hx194_1, hx194_2, hx194_3, hx194_4⟩ := at_T42 (Kd.R_reads' HO_1.out).2.2 3 p194 q194
                             obtain rfl : ad193 = ad194 := (by injection e194)
                             (try simp only [show (3 : Int).toNat = 3 from rfl, Nat.reduceMul, Nat.reduceEqDiff, Go.Addr.add, ↓reduceIte] at hx194_0)
                             (try simp only [show (3 : Int).toNat = 3 from rfl, Nat.reduceMul, Nat.reduceEqDiff, Go.Addr.add, ↓reduceIte] at hx194_1)
                             (try simp only [show (3 : Int).toNat = 3 from rfl, Nat.reduceMul, Nat.reduceEqDiff, Go.Addr.add, ↓reduceIte] at hx194_2)
                             (try simp only [show (3 : Int).toNat = 3 from rfl, Nat.reduceMul, Nat.reduceEqDiff, Go.Addr.add, ↓reduceIte] at hx194_3)
                             (try simp only [show (3 : Int).toNat = 3 from rfl, Nat.reduceMul, Nat.reduceEqDiff, Go.Addr.add, ↓reduceIte] at hx194_4)
                             have qi194 : (3 < t140.length) = True := eq_true (by omega)
                             (try rw [show ((3 : Int)).toNat = 3 from rfl] at hx194_0)
                             (try rw [show 3 * 5 = 15 from rfl] at hx194_0)
                             (try rw [show ((3 : Int)).toNat = 3 from rfl] at hx194_1)
                             (try rw [show 3 * 5 = 15 from rfl] at hx194_1)
                             (try rw [show ((3 : Int)).toNat = 3 from rfl] at hx194_2)
                             (try rw [show 3 * 5 = 15 from rfl] at hx194_2)
                             (try rw [show ((3 : Int)).toNat = 3 from rfl] at hx194_3)
                             (try rw [show 3 * 5 = 15 from rfl] at hx194_3)
                             (try rw [show ((3 : Int)).toNat = 3 from rfl] at hx194_4)
                             (try rw [show 3 * 5 = 15 from rfl] at hx194_4)
                             replace p194 := eq_true p194
                             replace q194 := eq_true q194
                             have p195 : 0 ≤ (3 : Int) := (by omega)
                             have q195 : 3 < (t140.length : Int) := of_decide_eq_true (by first | (with_reducible assumption) | assumption)
                             obtain ⟨ad195, e195, hx195_0, hx195_1, hx195_2, hx195_3, hx195_4⟩ := at_T42 (Kd.R_reads' HO_1.out).2.2 3 p195 q195
                             obtain rfl : ad193 = ad195 := (by injection e195)
                             (try simp only [show (3 : Int).toNat = 3 from rfl, Nat.reduceMul, Nat.reduceEqDiff, Go.Addr.add, ↓reduceIte] at hx195_0)
                             (try simp only [show (3 : Int).toNat = 3 from rfl, Nat.reduceMul, Nat.reduceEqDiff, Go.Addr.add, ↓reduceIte] at hx195_1)
                             (try simp only [show (3 : Int).toNat = 3 from rfl, Nat.reduceMul, Nat.reduceEqDiff, Go.Addr.add, ↓reduceIte] at hx195_2)
                             (try simp only [show (3 : Int).toNat = 3 from rfl, Nat.reduceMul, Nat.reduceEqDiff, Go.Addr.add, ↓reduceIte] at hx195_3)
                             (try simp only [show (3 : Int).toNat = 3 from rfl, Nat.reduceMul, Nat.reduceEqDiff, Go.Addr.add, ↓reduceIte] at hx195_4)
                             have qi195 : (3 < t140.length) = True := eq_true (by omega)
                             (try rw [show ((3 : Int)).toNat = 3 from rfl] at hx195_0)
                             (try rw [show 3 * 5 = 15 from rfl] at hx195_0)
                             (try rw [show ((3 : Int)).toNat = 3 from rfl] at hx195_1)
                             (try rw [show 3 * 5 = 15 from rfl] at hx195_1)
                             (try rw [show ((3 : Int)).toNat = 3 from rfl] at hx195_2)
                             (try rw [show 3 * 5 = 15 from rfl] at hx195_2)
                             (try rw [show ((3 : Int)).toNat = 3 from rfl] at hx195_3)
                             (try rw [show 3 * 5 = 15 from rfl] at hx195_3)
                             (try rw [show ((3 : Int)).toNat = 3 from rfl] at hx195_4)
                             (try rw [show 3 * 5 = 15 from rfl] at hx195_4)
                             replace p195 := eq_true p195
                             replace q195 := eq_true q195
                             have p196 : 0 ≤ (1 : Int) := (by omega)
                             have q196 : 1 < (t153.length : Int) := of_decide_eq_true (by first | (with_reducible assumption) | assumption)
                             obtain ⟨ad196, e196, hx196_0, hx196_1, hx196_2⟩ := at_T40 (Kd.R_reads' HO_10.out).2.2 1 p196 q196
                             cases e196
                             (try simp only [show (1 : Int).toNat = 1 from rfl, Nat.reduceMul, Nat.reduceEqDiff, Go.Addr.add, ↓reduceIte] at hx196_0)
                             (try simp only [show (1 : Int).toNat = 1 from rfl, Nat.reduceMul, Nat.reduceEqDiff, Go.Addr.add, ↓reduceIte] at hx196_1)
                             (try simp only [show (1 : Int).toNat = 1 from rfl, Nat.reduceMul, Nat.reduceEqDiff, Go.Addr.add, ↓reduceIte] at hx196_2)
                             have qi196 : (1 < t153.length) = True := eq_true (by omega)
                             (try rw [show ((1 : Int)).toNat = 1 from rfl] at hx196_0)
                             (try rw [show 1 * 3 = 3 from rfl] at hx196_0)
                             (try rw [show ((1 : Int)).toNat = 1 from rfl] at hx196_1)
                             (try rw [show 1 * 3 = 3 from rfl] at hx196_1)
                             (try rw [show ((1 : Int)).toNat = 1 from rfl] at hx196_2)
                             (try rw [show 1 * 3 = 3 from rfl] at hx196_2)
                             replace p196 := eq_true p196
                             replace q196 := eq_true q196
                             have hnb69 := NB166_175.out
                             have hnc69 := NB175_166.out
                             have hcz70_0 : wc.cell? ⟨gb166, 0, none⟩ = some (.int .i64 t161) := (blk_cell BK166.out 0).trans rfl
                             have hcz70_1 : wc.cell? ⟨gb166, 1, none⟩ = some (.string t162) := (blk_cell BK166.out 1).trans rfl
                             have hcz70_2 : wc.cell? ⟨gb166, 2, none⟩ = some (.int .i64 t163) := (blk_cell BK166.out 2).trans rfl
                             have hfz70_0 := blk_frozen BK166.out 0
                             have hfz70_1 := blk_frozen BK166.out 1
                             have hfz70_2 := blk_frozen BK166.out 2
                             have hcz71_0 : wc.cell? ⟨gb175, 0, none⟩ = some (.int .i64 t170) := (blk_cell BK175.out 0).trans rfl
                             have hcz71_1 : wc.cell? ⟨gb175, 1, none⟩ = some (.string t171) := (blk_cell BK175.out 1).trans rfl
                             have hcz71_2 : wc.cell? ⟨gb175, 2, none⟩ = some (.int .i64 t172) := (blk_cell BK175.out 2).trans rfl
                             have hfz71_0 := blk_frozen BK175.out 0
                             have hfz71_1 := blk_frozen BK175.out 1
                             have hfz71_2 := blk_frozen BK175.out 2
                             have p197 : 0 ≤ (1 : Int) := (by omega)
                             have q197 : 1 < (t167.length : Int) := of_decide_eq_true (by first | (with_reducible assumption) | assumption)
                             obtain ⟨ad197, e197, hx197_0, hx197_1, hx197_2, hx197_3, hx197_4⟩ := at_T42 (Kd.R_reads' HO_17.out).2.2 1 p197 q197
                             cases e197
                             (try simp only [show (1 : Int).toNat = 1 from rfl, Nat.reduceMul, Nat.reduceEqDiff, Go.Addr.add, ↓reduceIte] at hx197_0)
                             (try simp only [show (1 : Int).toNat = 1 from rfl, Nat.reduceMul, Nat.reduceEqDiff, Go.Addr.add, ↓reduceIte] at hx197_1)
                             (try simp only [show (1 : Int).toNat = 1 from rfl, Nat.reduceMul, Nat.reduceEqDiff, Go.Addr.add, ↓reduceIte] at hx197_2)
                             (try simp only [show (1 : Int).toNat = 1 from rfl, Nat.reduceMul, Nat.reduceEqDiff, Go.Addr.add, ↓reduceIte] at hx197_3)
                             (try simp only [show (1 : Int).toNat = 1 from rfl, Nat.reduceMul, Nat.reduceEqDiff, Go.Addr.add, ↓reduceIte] at hx197_4)
                             have qi197 : (1 < t167.length) = True := eq_true (by omega)
                             (try rw [show ((1 : Int)).toNat = 1 from rfl] at hx197_0)
                             (try rw [show 1 * 5 = 5 from rfl] at hx197_0)
                             (try rw [show ((1 : Int)).toNat = 1 from rfl] at hx197_1)
                             (try rw [show 1 * 5 = 5 from rfl] at hx197_1)
                             (try rw [show ((1 : Int)).toNat = 1 from rfl] at hx197_2)
                             (try rw [show 1 * 5 = 5 from rfl] at hx197_2)
                             (try rw [show ((1 : Int)).toNat = 1 from rfl] at hx197_3)
                             (try rw [show 1 * 5 = 5 from rfl] at hx197_3)
                             (try rw [show ((1 : Int)).toNat = 1 from rfl] at hx197_4)
                             (try rw [show 1 * 5 = 5 from rfl] at hx197_4)
                             replace p197 := eq_true p197
                             replace q197 := eq_true q197
                             have p198 : 0 ≤ (0 : Int) := (by omega)
                             have q198 : 0 < (t176.length : Int) := of_decide_eq_true (by first | (with_reducible assumption) | assumption)
                             obtain ⟨ad198, e198, hx198_0, hx198_1, hx198_2, hx198_3, hx198_4⟩ := at_T42 (Kd.R_reads' HO_21.out).2.2 0 p198 q198
                             cases e198
                             have qi198 : (0 < t176.length) = True := eq_true (by omega)
                             (try rw [show ((0 : Int)).toNat = 0 from rfl] at hx198_0)
                             (try rw [show 0 * 5 = 0 from rfl] at hx198_0)
                             (try rw [Addr.add_zero'] at hx198_0)
                             (try rw [show ((0 : Int)).toNat = 0 from rfl] at hx198_1)
                             (try rw [show 0 * 5 = 0 from rfl] at hx198_1)
                             (try rw [Addr.add_zero'] at hx198_1)
                             (try rw [show ((0 : Int)).toNat = 0 from rfl] at hx198_2)
                             (try rw [show 0 * 5 = 0 from rfl] at hx198_2)
                             (try rw [Addr.add_zero'] at hx198_2)
                             (try rw [show ((0 : Int)).toNat = 0 from rfl] at hx198_3)
                             (try rw [show 0 * 5 = 0 from rfl] at hx198_3)
                             (try rw [Addr.add_zero'] at hx198_3)
                             (try rw [show ((0 : Int)).toNat = 0 from rfl] at hx198_4)
                             (try rw [show 0 * 5 = 0 from rfl] at hx198_4)
                             (try rw [Addr.add_zero'] at hx198_4)
                             replace p198 := eq_true p198
                             replace q198 := eq_true q198
                             have p199 : 0 ≤ (1 : Int) := (by omega)
                             have q199 : 1 < (t183.length : Int) := of_decide_eq_true (by first | (with_reducible assumption) | assumption)
                             obtain ⟨ad199, e199, hx199_0, hx199_1, hx199_2, hx199_3, hx199_4⟩ := at_T42 (Kd.R_reads' HO_26.out).2.2 1 p199 q199
                             cases e199
                             (try simp only [show (1 : Int).toNat = 1 from rfl, Nat.reduceMul, Nat.reduceEqDiff, Go.Addr.add, ↓reduceIte] at hx199_0)
                             (try simp only [show (1 : Int).toNat = 1 from rfl, Nat.reduceMul, Nat.reduceEqDiff, Go.Addr.add, ↓reduceIte] at hx199_1)
                             (try simp only [show (1 : Int).toNat = 1 from rfl, Nat.reduceMul, Nat.reduceEqDiff, Go.Addr.add, ↓reduceIte] at hx199_2)
                             (try simp only [show (1 : Int).toNat = 1 from rfl, Nat.reduceMul, Nat.reduceEqDiff, Go.Addr.add, ↓reduceIte] at hx199_3)
                             (try simp only [show (1 : Int).toNat = 1 from rfl, Nat.reduceMul, Nat.reduceEqDiff, Go.Addr.add, ↓reduceIte] at hx199_4)
                             have qi199 : (1 < t183.length) = True := eq_true (by omega)
                             (try rw [show ((1 : Int)).toNat = 1 from rfl] at hx199_0)
                             (try rw [show 1 * 5 = 5 from rfl] at hx199_0)
                             (try rw [show ((1 : Int)).toNat = 1 from rfl] at hx199_1)
                             (try rw [show 1 * 5 = 5 from rfl] at hx199_1)
                             (try rw [show ((1 : Int)).toNat = 1 from rfl] at hx199_2)
                             (try rw [show 1 * 5 = 5 from rfl] at hx199_2)
                             (try rw [show ((1 : Int)).toNat = 1 from rfl] at hx199_3)
                             (try rw [show 1 * 5 = 5 from rfl] at hx199_3)
                             (try rw [show ((1 : Int)).toNat = 1 from rfl] at hx199_4)
                             (try rw [show 1 * 5 = 5 from rfl] at hx199_4)
                             replace p199 := eq_true p199
                             replace q199 := eq_true q199
                             go_wp2
                             go_ret
                             exact ⟨by first | rfl | (simp [errW_none, errW_some] <;> rfl) | (simp [*, errW_none, errW_some] <;> rfl), by repeat (first | (with_reducible first | exact HB.out | apply below_alloc | apply pw_below_drewN | apply below_drew1 | refine below_set ?_ GE166.out | refine below_set ?_ GE175.out) | exact HB.out)⟩
                            ·rw [if_neg c63] at H
                             exact absurd H (by simp)
                           ·rw [if_neg c62] at H
                            first | exact absurd (H.trans (congrArg some HRT.out)) (by simp) | exact absurd (H.trans (congrArg some HRT.out)) (mjolnerlaw04_sane.j0_true _ _ _ _ _ _ _ _ _ _ _ _ _ _ _ _ _ _)
                          ·rw [if_neg c61] at H
                           exact absurd H (by simp)
                         ·rw [if_neg c60] at H
                          first | exact absurd (H.trans (congrArg some HRT.out)) (by simp) | exact absurd (H.trans (congrArg some HRT.out)) (mjolnerlaw04_sane.j0_true _ _ _ _ _ _ _ _ _ _ _ _ _ _ _ _ _ _)
                        ·rw [if_neg c59] at H
                         exact absurd H (by simp)
                       ·rw [if_neg c58] at H
                        first | exact absurd (H.trans (congrArg some HRT.out)) (by simp) | exact absurd (H.trans (congrArg some HRT.out)) (mjolnerlaw04_sane.j0_true _ _ _ _ _ _ _ _ _ _ _ _ _ _ _ _ _ _)
                      ·rw [if_neg c57] at H
                       first | exact absurd (H.trans (congrArg some HRT.out)) (by simp) | exact absurd (H.trans (congrArg some HRT.out)) (mjolnerlaw04_sane.j0_true _ _ _ _ _ _ _ _ _ _ _ _ _ _ _ _ _ _)
                     ·rw [if_neg c56] at H
                      first | exact absurd (H.trans (congrArg some HRT.out)) (by simp) | exact absurd (H.trans (congrArg some HRT.out)) (mjolnerlaw04_sane.j0_true _ _ _ _ _ _ _ _ _ _ _ _ _ _ _ _ _ _)
                    ·rw [if_neg c55] at H
                     first | exact absurd (H.trans (congrArg some HRT.out)) (by simp) | exact absurd (H.trans (congrArg some HRT.out)) (mjolnerlaw04_sane.j0_true _ _ _ _ _ _ _ _ _ _ _ _ _ _ _ _ _ _)
                   ·rw [if_neg c54] at H
                    exact absurd H (by simp)
                  ·rw [if_neg c53] at H
                   first | exact absurd (H.trans (congrArg some HRT.out)) (by simp) | exact absurd (H.trans (congrArg some HRT.out)) (mjolnerlaw04_sane.j0_true _ _ _ _ _ _ _ _ _ _ _ _ _ _ _ _ _ _)
                 ·rw [if_neg c52] at H
                  first | exact absurd (H.trans (congrArg some HRT.out)) (by simp) | exact absurd (H.trans (congrArg some HRT.out)) (mjolnerlaw04_sane.j0_true _ _ _ _ _ _ _ _ _ _ _ _ _ _ _ _ _ _)
                ·rw [if_neg c51] at H
                 first | exact absurd (H.trans (congrArg some HRT.out)) (by simp) | exact absurd (H.trans (congrArg some HRT.out)) (mjolnerlaw04_sane.j0_true _ _ _ _ _ _ _ _ _ _ _ _ _ _ _ _ _ _)
               ·rw [if_neg c50] at H
                exact absurd H (by simp)
              ·rw [if_neg c49] at H
               first | exact absurd (H.trans (congrArg some HRT.out)) (by simp) | exact absurd (H.trans (congrArg some HRT.out)) (mjolnerlaw04_sane.j0_true _ _ _ _ _ _ _ _ _ _ _ _ _ _ _ _ _ _)
             ·rw [if_neg c48] at H
              exact absurd H (by simp)
            ·rw [if_neg c47] at H
             first | exact absurd (H.trans (congrArg some HRT.out)) (by simp) | exact absurd (H.trans (congrArg some HRT.out)) (mjolnerlaw04_sane.j0_true _ _ _ _ _ _ _ _ _ _ _ _ _ _ _ _ _ _)
           ·rw [if_neg c46] at H
            first | exact absurd (H.trans (congrArg some HRT.out)) (by simp) | exact absurd (H.trans (congrArg some HRT.out)) (mjolnerlaw04_sane.j0_true _ _ _ _ _ _ _ _ _ _ _ _ _ _ _ _ _ _)
          ·replace c45 := Bool.eq_false_iff.mpr c45
           subst c45
           have H1 : (some false) = some r := by rw [if_neg (show ¬ (false = true) by decide)] at H; exact H
           clear H
           have H := H1
           clear H1
           first | exact absurd (H.trans (congrArg some HRT.out)) (by simp) | exact absurd (H.trans (congrArg some HRT.out)) (mjolnerlaw04_sane.j0_true _ _ _ _ _ _ _ _ _ _ _ _ _ _ _ _ _ _)
         ·rw [if_neg c44] at H
          first | exact absurd (H.trans (congrArg some HRT.out)) (by simp) | exact absurd (H.trans (congrArg some HRT.out)) (mjolnerlaw04_sane.j0_true _ _ _ _ _ _ _ _ _ _ _ _ _ _ _ _ _ _)
        ·rw [if_neg c43] at H
         first | exact absurd (H.trans (congrArg some HRT.out)) (by simp) | exact absurd (H.trans (congrArg some HRT.out)) (mjolnerlaw04_sane.j0_true _ _ _ _ _ _ _ _ _ _ _ _ _ _ _ _ _ _)
       ·rw [if_neg c42] at H
        first | exact absurd (H.trans (congrArg some HRT.out)) (by simp) | exact absurd (H.trans (congrArg some HRT.out)) (mjolnerlaw04_sane.j0_true _ _ _ _ _ _ _ _ _ _ _ _ _ _ _ _ _ _)
      ·rw [if_neg c41] at H
       first | exact absurd (H.trans (congrArg some HRT.out)) (by simp) | exact absurd (H.trans (congrArg some HRT.out)) (mjolnerlaw04_sane.j0_true _ _ _ _ _ _ _ _ _ _ _ _ _ _ _ _ _ _)
     ·rw [if_neg c40] at H
      first | exact absurd (H.trans (congrArg some HRT.out)) (by simp) | exact absurd (H.trans (congrArg some HRT.out)) (mjolnerlaw04_sane.j0_true _ _ _ _ _ _ _ _ _ _ _ _ _ _ _ _ _ _)
    ·rw [if_neg c39] at H
     first | exact absurd (H.trans (congrArg some HRT.out)) (by simp) | exact absurd (H.trans (congrArg some HRT.out)) (mjolnerlaw04_sane.j0_true _ _ _ _ _ _ _ _ _ _ _ _ _ _ _ _ _ _)
theorem mjolnerlaw04_sane.is24 : mjolnerlaw04_sane.f 24 = some true := by kernel_rfl
theorem mjolnerlaw04_sane.up : ∀ j k r, mjolnerlaw04_sane.f k = some r → mjolnerlaw04_sane.f (k + j) = some r
 | 0, _, _, h => h
 | j + 1, k, r, h => mjolnerlaw04_sane.mono (k + j) r (mjolnerlaw04_sane.up j k r h)
theorem mjolnerlaw04_sane.is_true (k : Nat) (r : Bool) (h : mjolnerlaw04_sane.f k = some r) : r = true := by
 have h1 := mjolnerlaw04_sane.up 24 k r h
 have h2 := mjolnerlaw04_sane.up k 24 true mjolnerlaw04_sane.is24
 rw [Nat.add_comm] at h2
 exact Option.some.inj (h1.symm.trans h2)
theorem mjolnerlaw04_sane.calls (k : Nat)  (r : Bool) (w : World) (hG : LaidG w) (h : mjolnerlaw04_sane.f k  = some r) :
  Calls Tryd.prog 10 #[] w fun e w' => e = .returned (.bool r) ∧ Below w.heap.size w w' :=
 mjolnerlaw04_sane.callsT k r w hG h (mjolnerlaw04_sane.is_true k r h)
end Go.Proofs.YtniihjhlkpjnoaaDoor.PV
