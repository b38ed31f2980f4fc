/- The law SolomonCorrects: a code word read with errors and erasures within the bound is decoded rightly; else what is decoded is a code word within the bound of what was read, or nothing. -/
import Derived.Test.YtlifghomejdhnaaDoorRd
import Derived.Test.YtlifghomejdhnaaDoorSame
set_option linter.unusedVariables false
set_option linter.unusedSimpArgs false
namespace Go.Proofs.YtlifghomejdhnaaDoor
open Go.RowKit Go.Shelf Go.Proofs.YtlifghomejdhnaaDoorW.PrintWords Go.Proofs.YtlifghomejdhnaaDoorW.PrintLast Go.Proofs.YtlifghomejdhnaaDoorW.PrintMore Go.Proofs.YtlifghomejdhnaaDoor.Q Go.Proofs.YtlifghomejdhnaaDoor.Gf

/-- What was sent is within the bound of what is read, if the places that were changed are few. -/
theorem near_sent {O R : List G} {E : List Nat} (hl : R.length = O.length) (hc : Code R) (hd : E.Nodup) (h : 2 * (errL O E R).length + E.length ≤ 4) : Near O E R := by
  refine ⟨hl, hc, errL O E R, ?_, fun p hp => (mem_errL.1 hp).1, h, fun p hp h1 h2 => ?_⟩
  · rw [List.nodup_append]
    refine ⟨hd, (errL_sorted O E R).imp (fun h => Nat.ne_of_lt h), fun a ha b hb e => ?_⟩
    subst e
    exact (mem_errL.1 hb).2.1 ha
  · exact Classical.byContradiction fun hc => h2 (mem_errL.2 ⟨hp, h1, fun e => hc e.symm⟩)
theorem wrap_two (a b s : Nat) (h : s = 2 * a + b) (hs : s ≤ 1000) : wrap64 ((2 : Int) * (a : Int) + (b : Int)) = (s : Int) := by
  subst h
  unfold wrap64
  omega
theorem wrap_twice (s : Nat) (h : s = 0) : wrap64 ((s : Int) + (s : Int)) = 0 := by
  subst h
  unfold wrap64
  omega
theorem le_four (a b s : Nat) (h : s = 2 * a + b) (hn : 2 * a + b ≤ 4) : (s : Int) ≤ 4 := by omega
theorem nle_four (a b s : Nat) (h : s = 2 * a + b) (hn : ¬ 2 * a + b ≤ 4) : ¬ ((s : Int) ≤ 4) := by omega
attribute [local go_sem] max2_int min2_int max_two min_two max_three min_three
set_option maxHeartbeats 16000000 in
set_option maxRecDepth 1000000 in
theorem corrects_any (A0 : Option Addr) (c0 : Nat) (l0 : List Int) (A1 : Option Addr) (c1 : Nat) (z : List (Int × Int × Bool)) (w : World) (hp : PW w) (hr0 : Kd.C (Kd.int .u8) w A0 l0.length l0) (hc0 : l0.length ≤ c0) (hl0 : l0.length ≤ 140737488351232) (hp0 : ∀ x ∈ l0, 0 ≤ x ∧ x < 256) (hr1 : kNz.C w A1 z.length z) (hc1 : z.length ≤ c1) (hz : ∀ x ∈ z, okNz x) :
    Calls Tryd.prog 5 #[.slice A0 l0.length c0, .slice A1 z.length c1] w fun e w' => e = .returned (.bool true) ∧ Below w.heap.size w w' := by
  obtain ⟨q, hq⟩ : ∃ q, min z.length 6 = q := ⟨_, rfl⟩
  have hqq : (if (6 : Int) < (z.length : Int) then (6 : Int) else (z.length : Int)) = (q : Int) := by split <;> omega
  have hql : q ≤ z.length := by omega
  have hq6 : q ≤ 6 := by omega
  have hqc : q ≤ c1 := by omega
  have htl : (z.take q).length = q := by rw [List.length_take]; omega
  have HRD := Aside0.mk (fun (g0 cg0 : Nat) (R : List G) (W : World) (hb : Below w.heap.size w W) => read_any g0 cg0 R A1 c1 (z.take q) W)
  have HN := Aside0.mk (fun (W : World) (hb : Below w.heap.size w W) => (by rw [htl]; exact nz_take (Kd.C_below hr1 hb) hql : kNz.C W A1 (z.take q).length (z.take q)))
  have HZ := Aside0.mk (fun x (hx : x ∈ z.take q) => hz x (List.mem_of_mem_take hx))
  have HTL := Aside0.mk htl
  have HCO := Aside0.mk (coded_any A0 c0 l0 w hp hr0 hc0 hl0 hp0)
  have HP := Aside0.mk hp
  have HDP := Aside0.mk (And.intro (dataG_pos l0) (dataG_le l0))
  obtain ⟨L, hL⟩ : ∃ L, L = (dataG l0).length + 4 := ⟨_, rfl⟩
  have hL5 : 5 ≤ L := by have := HDP.out; omega
  have hL63 : L ≤ 63 := by have := HDP.out; omega
  rw [← hL] at HCO
  clear hr0 hp0 hp hr1 hz htl hL hq
  go_enter Tryd.func5, Tryd.ntmps5
  go_wp2_with fail
  refine HCO.out.mono ?_
  rintro e w1 ⟨g, cg, rfl, hg, hcg, R, hRl, -, hRc, hRr, hb1⟩
  have hrd := HRD.out g cg R w1 hb1 hRr (by rw [hRl]; exact hcg) (by rw [hRl]; omega) (by rw [hRl]; exact hL63) (HN.out w1 hb1) (by rw [HTL.out]; exact hqc) HZ.out (by rw [HTL.out]; exact hq6)
  rw [hRl, HTL.out] at hrd
  have HRE := Aside0.mk hrd
  have HRR := Aside0.mk hRr
  have HRL := Aside0.mk hRl
  have HRC := Aside0.mk hRc
  have HB1 := Aside0.mk hb1
  clear hrd hg hRl hRc hRr hb1 HCO HRD HN
  go_wp2_with fail
  refine HRE.out.mono ?_
  rintro e w2 ⟨go, cgo, AE, cE, AC, cC, O, E, rfl, hgo, hcgo, hOl, hEq, hcE, hcC, hEd, hEb, hOr, hEr, hCr, hb2⟩
  obtain ⟨EN, hEN⟩ : ∃ EN, EN = E.length := ⟨_, rfl⟩
  obtain ⟨C, hC⟩ : ∃ C, C = errL O E R := ⟨_, rfl⟩
  rw [← hC] at hcC hCr ⊢
  obtain ⟨CN, hCN⟩ : ∃ CN, CN = C.length := ⟨_, rfl⟩
  rw [← hEN] at hEq hcE hEr ⊢
  rw [← hCN] at hcC hCr ⊢
  have hpr := (HP.out.below HB1.out).below hb2
  have hCL : CN ≤ 63 := by
    rw [hCN, hC]
    unfold errL
    have := List.length_filter_le (fun p => decide (p ∉ E) && decide (O.getD p 0 ≠ R.getD p 0)) (List.range O.length)
    rw [List.length_range] at this
    omega
  have hOr2 := hOr.reads (by rw [ns_length, hOl]; omega)
  rw [ns_length] at hOr2
  have HB2 := Aside0.mk (HB1.out.trans (hb2.mono HB1.out.size))
  have HRR2 := Aside0.mk (HRR.out.below hb2)
  have HOL := Aside0.mk hOl
  have HCC := Aside0.mk hC
  have HCNN := Aside0.mk hCN
  have HENN := Aside0.mk hEN
  have HOR := Aside0.mk hOr
  have HER := Aside0.mk hEr
  have HCR := Aside0.mk hCr
  have HED := Aside0.mk hEd
  have HEB := Aside0.mk hEb
  have HPR := Aside0.mk hpr
  by_cases hnear : 2 * CN + EN ≤ 4
  · have hN : Near O E R := near_sent (HRL.out.trans hOl.symm) HRC.out hEd (by rw [← hC, ← hCN, ← hEN]; exact hnear)
    have hdec := Dec_near (some ⟨go, 0, none⟩) cgo O AE cE E R w2 hpr hOr2 (by rw [hOl]; exact hcgo) (by rw [hOl]; omega) (by rw [hOl]; exact hL63) (by rw [← hEN]; exact hEr) (by rw [← hEN]; exact hcE) (by rw [← hEN]; omega) (fun p hp => by rw [hOl]; exact hEb p hp) hEd hN
    rw [hOl, ← hEN, ← hC, ← hCN] at hdec
    have HDEC := Aside0.mk hdec
    obtain ⟨SN, hSN⟩ : ∃ SN : Nat, SN = 2 * CN + EN := ⟨_, rfl⟩
    have hwr : wrap64 ((2 : Int) * (CN : Int) + (EN : Int)) = (SN : Int) := wrap_two CN EN SN hSN (Nat.le_trans (Nat.le_of_eq hSN) (Nat.le_trans (Nat.add_le_add (Nat.mul_le_mul_left 2 hCL) (Nat.le_trans hEq hq6)) (by decide)))
    have hni : (SN : Int) ≤ 4 := le_four CN EN SN hSN hnear
    clear hSN
    clear hdec hN hgo hOl hEq hEd hEb hOr hEr hCr hb2 hEN hC hCN hpr hOr2
    go_wp2_with fail
    refine HDEC.out.mono ?_
    rintro e w3 ⟨gx, cx, AX, cX, rfl, hcx, hcX, hgx, hrx, hre, hb3⟩
    obtain ⟨w4, hw4⟩ : ∃ w4, w3.alloc (.cells #[.slice (some ⟨gx, 0, none⟩) L cx, .slice AX CN cX] 39) = w4 := ⟨_, rfl⟩
    have hb4 : Below w3.heap.size w3 w4 := by rw [← hw4]; exact below_al w3 _
    have hb24 : Below w2.heap.size w2 w4 := hb3.trans (hb4.mono hb3.size)
    have hblk : w4.heap[w3.heap.size]? = some (.cells #[.slice (some ⟨gx, 0, none⟩) L cx, .slice AX CN cX] 39 (0, 0)) := by rw [← hw4]; exact heap_alloc_new w3 _
    have HF := Aside0.mk hblk
    have hf0 : (w3.alloc (.cells #[.slice (some ⟨gx, 0, none⟩) L cx, .slice AX CN cX] 39)).cell? ⟨w3.heap.size, 0, none⟩ = some (.slice (some ⟨gx, 0, none⟩) L cx) := by rw [hw4]; unfold World.cell?; rw [hblk]; simp
    have HSB := Aside0.mk (SameB_any (some ⟨gx, 0, none⟩) cx (ns R) (some ⟨g, 0, none⟩) cg (ns R) L L w4 (by rw [ns_length, HRL.out]) (by rw [ns_length, HRL.out]) (by omega) (by have := (hrx.below hb4).reads (by rw [ns_length, HRL.out]; omega); rwa [ns_length, HRL.out] at this) hcx (by have := (HRR2.out.below hb24).reads (by rw [ns_length, HRL.out]; omega); rwa [ns_length, HRL.out] at this) hcg)
    rw [decide_eq_true rfl] at HSB
    have HRE4 := Aside0.mk (Kd.C_below hre hb4)
    have HCR4 := Aside0.mk (Kd.C_below HCR.out hb24)
    have HB4 := Aside0.mk (HB2.out.trans (hb24.mono HB2.out.size))
    have HW4 := Aside0.mk hw4
    clear hgx hrx hre hb3 hb4 hb24 hblk hw4 HDEC
    go_wp2_with fail
    rw [HW4.out]
    refine HSB.out.mono ?_
    rintro e w5 ⟨rfl, hb5⟩
    have HF5 := Aside0.mk (blk_below HF.out hb5)
    have hf1 : w5.cell? ⟨w3.heap.size, 1, none⟩ = some (.slice AX CN cX) := by unfold World.cell?; rw [HF5.out]; simp
    have HSI := Aside0.mk (SameI_any AX cX (is C) AC cC (is C) CN CN w5 (by rw [is_length, HCNN.out]) (by rw [is_length, HCNN.out]) (by omega) (Kd.C_below HRE4.out hb5) hcX (Kd.C_below HCR4.out hb5) hcC)
    rw [decide_eq_true rfl] at HSI
    have HB5 := Aside0.mk (HB4.out.trans (hb5.mono HB4.out.size))
    clear hb5 hf0 HSB
    go_wp2_with fail
    refine HSI.out.mono ?_
    rintro e w6 ⟨rfl, hb6⟩
    have HB6 := Aside0.mk (HB5.out.trans (hb6.mono HB5.out.size))
    have HAW := Aside0.mk (awake_any w6 (HP.out.below HB6.out))
    clear hb6 hf1 HSI
    go_wp2_with fail
    refine HAW.out.mono ?_
    rintro e w7 ⟨rfl, hb7⟩
    go_wp2
    go_ret
    exact ⟨rfl, HB6.out.trans (hb7.mono HB6.out.size)⟩
  · have hdec := Dec_all (some ⟨go, 0, none⟩) cgo O AE cE E w2 hpr hOr2 (by rw [hOl]; exact hcgo) (by rw [hOl]; omega) (by rw [hOl]; exact hL63) (by rw [← hEN]; exact hEr) (by rw [← hEN]; exact hcE) (by rw [← hEN]; omega) (fun p hp => by rw [hOl]; exact hEb p hp) hEd
    rw [hOl, ← hEN] at hdec
    have HDEC := Aside0.mk hdec
    obtain ⟨SN, hSN⟩ : ∃ SN : Nat, SN = 2 * CN + EN := ⟨_, rfl⟩
    have hwr : wrap64 ((2 : Int) * (CN : Int) + (EN : Int)) = (SN : Int) := wrap_two CN EN SN hSN (Nat.le_trans (Nat.le_of_eq hSN) (Nat.le_trans (Nat.add_le_add (Nat.mul_le_mul_left 2 hCL) (Nat.le_trans hEq hq6)) (by decide)))
    have hni : ¬ ((SN : Int) ≤ 4) := nle_four CN EN SN hSN hnear
    clear hSN
    clear hdec hgo hOl hEq hEd hEb hOr hEr hCr hb2 hEN hC hCN hpr hOr2
    go_wp2_with fail
    refine HDEC.out.mono ?_
    rintro e w3 ⟨hcase, hb3⟩
    have HB3 := Aside0.mk (HB2.out.trans (hb3.mono HB2.out.size))
    rcases hcase with ⟨he, hno⟩ | ⟨hP4, x, gx, cx, AX, cX, rfl, hnr, hcx, hcX, hrx, hre⟩
    · obtain ⟨S, T, s0, rfl, hs0⟩ : ∃ (S T : Option Addr) (s0 : Nat), e = .returned (.tuple #[.agg #[.slice S s0 0, .slice T s0 0], .int .i64 190]) ∧ s0 = 0 := ⟨none, none, 0, he, rfl⟩
      obtain ⟨w4, hw4⟩ : ∃ w4, w3.alloc (.cells #[.slice S s0 0, .slice T s0 0] 39) = w4 := ⟨_, rfl⟩
      have hb4 : Below w3.heap.size w3 w4 := by rw [← hw4]; exact below_al w3 _
      have hblk : w4.heap[w3.heap.size]? = some (.cells #[.slice S s0 0, .slice T s0 0] 39 (0, 0)) := by rw [← hw4]; exact heap_alloc_new w3 _
      have hf0 : (w3.alloc (.cells #[.slice S s0 0, .slice T s0 0] 39)).cell? ⟨w3.heap.size, 0, none⟩ = some (.slice S s0 0) := by rw [hw4]; unfold World.cell?; rw [hblk]; simp
      have hf1 : (w3.alloc (.cells #[.slice S s0 0, .slice T s0 0] 39)).cell? ⟨w3.heap.size, 1, none⟩ = some (.slice T s0 0) := by rw [hw4]; unfold World.cell?; rw [hblk]; simp
      have HB4 := Aside0.mk (HB3.out.trans (hb4.mono HB3.out.size))
      have HAW := Aside0.mk (awake_any w4 (HP.out.below HB4.out))
      have hz0 : wrap64 ((s0 : Int) + (s0 : Int)) = 0 := wrap_twice s0 hs0
      have HW4 := Aside0.mk hw4
      clear hno hb3 hb4 hblk hw4 HDEC hs0 he
      go_wp2_with fail
      rw [HW4.out]
      refine HAW.out.mono ?_
      rintro e w5 ⟨rfl, hb5⟩
      go_wp2
      go_ret
      exact ⟨rfl, HB4.out.trans (hb5.mono HB4.out.size)⟩
    · obtain ⟨XN, hXN⟩ : ∃ XN, XN = (errL O E x).length := ⟨_, rfl⟩
      rw [← hXN] at hcX hre ⊢
      obtain ⟨w4, hw4⟩ : ∃ w4, w3.alloc (.cells #[.slice (some ⟨gx, 0, none⟩) L cx, .slice AX XN cX] 39) = w4 := ⟨_, rfl⟩
      have hb4 : Below w3.heap.size w3 w4 := by rw [← hw4]; exact below_al w3 _
      have hb24 : Below w2.heap.size w2 w4 := hb3.trans (hb4.mono hb3.size)
      have hblk : w4.heap[w3.heap.size]? = some (.cells #[.slice (some ⟨gx, 0, none⟩) L cx, .slice AX XN cX] 39 (0, 0)) := by rw [← hw4]; exact heap_alloc_new w3 _
      have hf0 : (w3.alloc (.cells #[.slice (some ⟨gx, 0, none⟩) L cx, .slice AX XN cX] 39)).cell? ⟨w3.heap.size, 0, none⟩ = some (.slice (some ⟨gx, 0, none⟩) L cx) := by rw [hw4]; unfold World.cell?; rw [hblk]; simp
      have hf1 : (w3.alloc (.cells #[.slice (some ⟨gx, 0, none⟩) L cx, .slice AX XN cX] 39)).cell? ⟨w3.heap.size, 1, none⟩ = some (.slice AX XN cX) := by rw [hw4]; unfold World.cell?; rw [hblk]; simp
      have HWI := within_any go cgo O AE cE E gx cx x AX cX w4 (HPR.out.below hb24) (HOR.out.below hb24) (by rw [HOL.out]; exact hcgo) (by rw [HOL.out]; omega) (by rw [HOL.out]; exact hL63) (by rw [← HENN.out]; exact Kd.C_below HER.out hb24) (by rw [← HENN.out]; exact hcE) (fun p hp => by rw [HOL.out]; exact HEB.out p hp) hnr (hrx.below hb4) (by rw [HOL.out]; exact hcx) (by rw [← hXN]; exact Kd.C_below hre hb4) (by rw [← hXN]; exact hcX)
      rw [HOL.out, ← HENN.out, ← hXN] at HWI
      replace HWI := Aside0.mk HWI
      have HB4 := Aside0.mk (HB2.out.trans (hb24.mono HB2.out.size))
      have HW4 := Aside0.mk hw4
      clear hnr hrx hre hb3 hb4 hb24 hblk hw4 hXN HDEC
      go_wp2_with fail
      rw [HW4.out]
      refine HWI.out.mono ?_
      rintro e w5 ⟨rfl, hb5⟩
      have HB5 := Aside0.mk (HB4.out.trans (hb5.mono HB4.out.size))
      have HAW := Aside0.mk (awake_any w5 (HP.out.below HB5.out))
      clear hb5 hf0 hf1 HWI
      go_wp2_with fail
      refine HAW.out.mono ?_
      rintro e w6 ⟨rfl, hb6⟩
      go_wp2
      go_ret
      exact ⟨rfl, HB5.out.trans (hb6.mono HB5.out.size)⟩
/-- The law, its arguments' bounds as the row hands them over. -/
theorem corrects_law (A0 : Option Addr) (c0 : Nat) (l0 : List Int) (A1 : Option Addr) (c1 : Nat) (z : List (Int × Int × Bool)) (w : World) (hr0 : Kd.C (Kd.int .u8) w A0 l0.length l0) (hc0 : l0.length ≤ c0) (hp0 : ∀ x ∈ l0, 0 ≤ x ∧ x < 256) (hl0 : l0.length ≤ 140737488351232) (hr1 : kNz.C w A1 z.length z) (hc1 : z.length ≤ c1) (hz : ∀ x ∈ z, okNz x) (hp : PW w) :
    Calls Tryd.prog 5 #[.slice A0 l0.length c0, .slice A1 z.length c1] w fun e w' => e = .returned (.bool true) ∧ Below w.heap.size w w' :=
  corrects_any A0 c0 l0 A1 c1 z w hp hr0 hc0 hl0 hp0 hr1 hc1 hz
end Go.Proofs.YtlifghomejdhnaaDoor
