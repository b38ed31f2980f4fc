/- letterbaglaw20.awake: the examples of the chapter hold. -/
import Derived.Test.YtofheegapiicoaaBarsF
import Derived.Test.YtofheegapiicoaaQ1
set_option linter.unusedVariables false
set_option linter.unusedSimpArgs false
namespace Go.Proofs.Ytofheegapiicoaa
open Go.RowKit Go.Shelf Go.Proofs.YtofheegapiicoaaW.PrintWords Go.Proofs.Ytofheegapiicoaa.Q

theorem ex_write : bars_Write.f [0, 63, 27] = some (⟨#[84, 84, 84, 70, 70, 70, 65, 68, 70]⟩, 0) := by decide +kernel
theorem ex_turn : bars_Turn.f ⟨#[65, 68, 70, 84, 63]⟩ = some (⟨#[63, 84, 70, 65, 68]⟩, 0) := by decide +kernel
theorem ex_read : bars_Read.f ⟨#[65, 65, 65, 84, 63, 84]⟩ = some ([21, 0], [1], 0) := by decide +kernel
theorem ex_unframe1 : bars_Unframe.f ⟨#[65, 84, 68, 70, 68]⟩ = some (⟨#[68]⟩, false, 0) := by decide +kernel
theorem ex_unframe2 : bars_Unframe.f ⟨#[65, 70, 65, 84, 68]⟩ = some (⟨#[68]⟩, true, 0) := by decide +kernel
theorem ex_unframe3 : bars_Unframe.f ⟨#[65, 84, 63, 68]⟩ = some (⟨#[]⟩, false, 200) := by decide +kernel
theorem ex_same1 : letterbagkit_SameBytes.f 5 [21, 0] [21, 0] = some true := by decide +kernel
theorem ex_same2 : letterbagkit_SameInts.f 5 [1] [1] = some true := by decide +kernel

set_option maxHeartbeats 2000000 in
set_option maxRecDepth 100000 in
theorem awake_any (w : World) : Calls Try.prog 10 #[] w fun e w' => e = .returned (.bool true) ∧ Below w.heap.size w w' := by
  go_enter Try.func10, Try.ntmps10
  go_wp2_with fail
  refine (bars_Write.calls _ 3 [0, 63, 27] _ _ _ (lit_reads w .u8 5 [0, 63, 27] _ rfl 3 rfl (by omega)) (by decide) ex_write).mono ?_
  rintro e w1 ⟨rfl, hb1⟩
  have HB1 := Aside0.mk (((Below.refl _ w).alloc (Nat.le_refl _) _).trans (hb1.mono (by simp)))
  clear hb1
  go_wp2_with fail
  refine (bars_Turn.calls _ _ _ _ ex_turn).mono ?_
  rintro e w2 ⟨rfl, hb2⟩
  have HB2 := Aside0.mk (HB1.out.trans (hb2.mono HB1.out.size))
  clear hb2
  go_wp2_with fail
  refine (bars_Read.calls _ _ _ _ _ ex_read).mono ?_
  rintro e w3 ⟨v0, v1, rfl, hv0, hv1, hb3⟩
  have HB3 := Aside0.mk (HB2.out.trans (hb3.mono HB2.out.size))
  obtain ⟨A0, c0, rfl, hc0, hr0⟩ := Kd.R_reads hv0
  obtain ⟨A1, c1, rfl, hc1, hr1⟩ := Kd.R_reads hv1
  have HR0 := Aside0.mk hr0
  have HR1 := Aside0.mk hr1
  have HC0 := Aside0.mk hc0
  have HC1 := Aside0.mk hc1
  clear hb3 hv0 hv1 hr0 hr1 hc0 hc1
  go_wp2_with fail
  refine (bars_Unframe.calls _ _ _ _ _ ex_unframe1).mono ?_
  rintro e w4 ⟨rfl, hb4⟩
  have HB4 := Aside0.mk hb4
  clear hb4
  go_wp2_with fail
  refine (bars_Unframe.calls _ _ _ _ _ ex_unframe2).mono ?_
  rintro e w5 ⟨rfl, hb5⟩
  have HB5 := Aside0.mk hb5
  clear hb5
  go_wp2_with fail
  refine (bars_Unframe.calls _ _ _ _ _ ex_unframe3).mono ?_
  rintro e w6 ⟨rfl, hb6⟩
  have HB6 := Aside0.mk (HB4.out.trans ((HB5.out.trans (hb6.mono HB5.out.size)).mono HB4.out.size))
  clear hb6
  have HR0b := Aside0.mk (Kd.C_below HR0.out HB6.out)
  have HR1b := Aside0.mk (Kd.C_below HR1.out HB6.out)
  have HS6 := Aside0.mk (HB3.out.trans (HB6.out.mono HB3.out.size))
  go_wp2_with fail
  refine (letterbagkit_SameBytes.calls 5 A0 c0 [21, 0] _ 2 [21, 0] true _ (Kd.C_alloc HR0b.out _) HC0.out (lit_reads w6 .u8 5 [21, 0] _ rfl 2 rfl (by omega)) (by decide) ex_same1).mono ?_
  rintro e w7 ⟨rfl, hd7⟩
  have HB7 := Aside0.mk (((Below.refl _ w6).alloc (Nat.le_refl _) (.cells #[.int .u8 21, .int .u8 0] 5)).trans (hd7.below.mono (by simp)))
  have HR1c := Aside0.mk (Kd.C_below HR1b.out HB7.out)
  have HS7 := Aside0.mk (HS6.out.trans (HB7.out.mono HS6.out.size))
  clear hd7
  go_wp2_with fail
  refine (letterbagkit_SameInts.calls 5 A1 c1 [1] _ 1 [1] true _ (Kd.C_alloc HR1c.out _) HC1.out (lit_reads w7 .i64 3 [1] _ rfl 1 rfl (by omega)) (by decide) ex_same2).mono ?_
  rintro e w8 ⟨rfl, hd8⟩
  have HB8 := Aside0.mk (((Below.refl _ w7).alloc (Nat.le_refl _) (.cells #[.int .i64 1] 3)).trans (hd8.below.mono (by simp)))
  have HS8 := Aside0.mk (HS7.out.trans (HB8.out.mono HS7.out.size))
  clear hd8
  go_wp2
  go_ret
  exact ⟨rfl, HS8.out⟩
def letterbaglaw20_awake.f : Option Bool := some true
theorem letterbaglaw20_awake.calls (r : Bool) (w : World) (h : letterbaglaw20_awake.f = some r) :
    Calls Try.prog 10 #[] w fun e w' => e = .returned (.bool r) ∧ Below w.heap.size w w' := by
  obtain rfl := Option.some.inj h
  exact awake_any w
end Go.Proofs.Ytofheegapiicoaa
