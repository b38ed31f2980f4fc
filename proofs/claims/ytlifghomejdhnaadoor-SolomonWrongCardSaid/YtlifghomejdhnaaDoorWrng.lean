/- The law SolomonWrong: whatever the symbols, the defect and the number, it returns true. -/
import Derived.Test.YtlifghomejdhnaaDoorCode
import Derived.Test.YtlifghomejdhnaaDoorAwak
set_option linter.unusedVariables false
set_option linter.unusedSimpArgs false
namespace Go.Proofs.YtlifghomejdhnaaDoor
open Go.RowKit Go.Shelf Go.Proofs.YtlifghomejdhnaaDoorW.PrintWords Go.Proofs.YtlifghomejdhnaaDoorW.PrintLast Go.Proofs.YtlifghomejdhnaaDoorW.PrintMore Go.Proofs.YtlifghomejdhnaaDoor.Q Go.Proofs.YtlifghomejdhnaaDoor.Gf

theorem own_crow' {k : IntKind} {e : TypeId} {W : World} {base : Nat} {v : Value} {l : List Int} {n : Nat} (h : Own k e W base v l) (hn : l.length = n) (hl : 0 < n) : ∃ g c, v = .slice (some ⟨g, 0, none⟩) n c ∧ n ≤ c ∧ base ≤ g ∧ CRow (Value.int k) 0 W g l := by
  subst hn
  exact own_crow h hl
theorem noword_len {l : List Int} (h : l.length ≤ 4 ∨ 63 < l.length) : wordW l = false := by
  unfold wordW
  rcases h with h | h
  · rw [decide_eq_false (by omega)]
    rfl
  · rw [decide_eq_false (show ¬ l.length ≤ 63 by omega), Bool.and_false]
    rfl
theorem noword_big {l : List Int} (i : Nat) (hi : i < l.length) (h : 64 ≤ l.getD i 0) : wordW l = false := by
  unfold wordW
  have : l.any big = true := by
    rw [List.any_eq_true]
    refine ⟨l[i], List.getElem_mem hi, ?_⟩
    rw [List.getD_eq_getElem?_getD, List.getElem?_eq_getElem hi] at h
    exact decide_eq_true h
  rw [this]
  simp
theorem five_ok {N : Nat} (h : 5 ≤ N) : ∀ i, i < [(0 : Int), 1, 2, 3, 4].length → okAt N [0, 1, 2, 3, 4] i := by
  intro i hi
  have : i = 0 ∨ i = 1 ∨ i = 2 ∨ i = 3 ∨ i = 4 := by simp at hi; omega
  rcases this with rfl | rfl | rfl | rfl | rfl <;> unfold okAt <;> simp <;> omega
attribute [local go_sem] max2_int min2_int max_two min_two max_three min_three
set_option maxHeartbeats 16000000 in
set_option maxRecDepth 1000000 in
theorem wrong_0 (A0 : Option Addr) (c0 : Nat) (l0 : List Int) (way n : Int) (w : World) (hp : PW w) (hr0 : Kd.C (Kd.int .u8) w A0 l0.length l0) (hc0 : l0.length ≤ c0) (hl0 : l0.length ≤ 140737488351232) (hp0 : ∀ x ∈ l0, 0 ≤ x ∧ x < 256) (hw0 : 0 ≤ way) (hw1 : way < 256) (hn0 : -9223372036854775808 ≤ n) (hn1 : n ≤ 9223372036854775807) (hq : way % 7 = 0) :
    Calls Tryd.prog 8 #[.slice A0 l0.length c0, .int .u8 way, .int .i64 n] w fun e w' => e = .returned (.bool true) ∧ Below w.heap.size w w' := by
  have HCO := Aside0.mk (coded_any A0 c0 l0 w hp hr0 hc0 hl0 hp0)
  have HP := Aside0.mk hp
  have HDP := Aside0.mk (And.intro (dataG_pos l0) (dataG_le l0))
  clear hr0 hp0 hp
  obtain ⟨L, hL⟩ : ∃ L, L = (dataG l0).length + 4 := ⟨_, rfl⟩
  have hL5 : 5 ≤ L := by have := HDP.out; omega
  have hL63 : L ≤ 63 := by have := HDP.out; omega
  rw [← hL] at HCO
  clear hL
  go_enter Tryd.func8, Tryd.ntmps8
  go_wp2_with fail
  refine HCO.out.mono ?_
  rintro e w1 ⟨g, cg, rfl, hg, hcg, R, hRl, -, hRc, hRr, hb1⟩
  have HRR := Aside0.mk hRr
  have HRL := Aside0.mk hRl
  have HRC := Aside0.mk hRc
  have HB1 := Aside0.mk hb1
  have HO1 := Aside0.mk (World.ownsRow_lit (base := w1.heap.size) (e := 5) (size := 1) w1 #[] 0 (Nat.le_refl _) (by decide) rfl)
  have HB10 := Aside0.mk ((Below.refl _ w1).alloc (Nat.le_refl _) (.cells #[] 5))
  have hrd := hRr.reads (by rw [ns_length]; omega)
  rw [ns_length, hRl] at hrd
  have HRD1 := Aside0.mk (Kd.C_alloc hrd (.cells #[] 5))
  obtain ⟨X, hX⟩ : ∃ X, X = ns R := ⟨_, rfl⟩
  have HXL := Aside0.mk (show X.length = L by rw [hX, ns_length, hRl])
  rw [← hX] at HRD1
  have HX := Aside0.mk hX
  clear hX hg hRl hRc hRr hb1 hrd HCO
  go_wp2_with (first | (at_builtin; refine print_append_row (w0 := w1) w1.heap.size rfl _ _ 22 5 .u8 1 rfl Tryd.underlying22 info_u8 (by decide) _ [] X (some ⟨g, 0, none⟩) L cg rfl rfl HO1.out (Kd.reads_of_C HRD1.out) HB10.out HB10.out.size (by simp <;> omega) ?_; intro v2 w2 hown hB2 hg2 hat; have hown' : Own .u8 5 w2 w1.heap.size v2 X := (by simpa [Own] using hown); have hL0 : 0 < L := (by omega); obtain ⟨gb, cb, rfl, hcb, hgb, hrowb⟩ := own_crow' hown' HXL.out hL0; have HRB := Aside0.mk hrowb; have HGB := Aside0.mk hgb; have HB2 := Aside0.mk hB2; have hcb4 : 4 ≤ cb := (by omega); clear hown hown' hB2 hg2 hat hrowb hgb hL0))
  have HBB := Aside0.mk (HB1.out.trans (HB2.out.mono HB1.out.size))
  have HWB : Aside0 (Kd.C (Kd.int .u8) w2 (some ⟨g, 0, none⟩) L (ns R)) := ⟨by
    have h := (HRR.out.below HB2.out).reads (by rw [ns_length, HRL.out]; omega)
    rwa [ns_length, HRL.out] at h⟩
  have HLB := Aside0.mk (show (X.take 4).length = 4 by rw [List.length_take, HXL.out]; omega)
  have HNW := Aside0.mk (noword_len (l := X.take 4) (.inl (by rw [HLB.out]; omega)))
  have HBAD : Aside0 (Kd.C (Kd.int .u8) w2 (some ⟨gb, 0, none⟩) 4 (X.take 4)) := ⟨by
    have h := Kd.C_take (HRB.out.reads (by rw [HXL.out]; omega)) (m := 4) (by rw [HXL.out]; omega)
    rwa [HLB.out] at h⟩
  have HSYN : Aside0 (∀ W', Below w2.heap.size w2 W' → Aside0 (Calls Tryd.prog 15 #[.slice (some ⟨gb, 0, none⟩) 4 cb] W' fun e w' => e = .returned (.tuple #[.slice none 0 0, .int .i64 2]) ∧ Below W'.heap.size W' w')) := ⟨fun W' hb => ⟨by
    have h := Synd_bad (some ⟨gb, 0, none⟩) cb (X.take 4) W' (by rw [HLB.out]; exact Kd.C_below HBAD.out hb) (by rw [HLB.out]; omega) (by rw [HLB.out]; omega) HNW.out
    rw [HLB.out] at h
    exact h⟩⟩
  have HVAL : Aside0 (∀ W', Below w2.heap.size w2 W' → Aside0 (Calls Tryd.prog 16 #[.slice (some ⟨gb, 0, none⟩) 4 cb] W' fun e w' => e = .returned (.bool false) ∧ Below W'.heap.size W' w')) := ⟨fun W' hb => ⟨by
    have h := Valid_bad (some ⟨gb, 0, none⟩) cb (X.take 4) W' (by rw [HLB.out]; exact Kd.C_below HBAD.out hb) (by rw [HLB.out]; omega) (by rw [HLB.out]; omega) HNW.out
    rw [HLB.out] at h
    exact h⟩⟩
  have HDEC : Aside0 (Calls Tryd.prog 23 #[.slice (some ⟨gb, 0, none⟩) 4 cb, .slice none 0 0] w2 fun e w' => e = .returned (.tuple #[.agg #[.slice none 0 0, .slice none 0 0], .int .i64 2]) ∧ Below w2.heap.size w2 w') := ⟨by
    have h := Dec_noword (some ⟨gb, 0, none⟩) cb (X.take 4) none 0 0 w2 (by rw [HLB.out]; exact HBAD.out) (by rw [HLB.out]; omega) (by rw [HLB.out]; omega) HNW.out
    rw [HLB.out] at h
    exact h⟩
  refine HDEC.out.mono ?_
  rintro e w3 ⟨rfl, hb3⟩
  obtain ⟨w4, hw4⟩ : ∃ w4, w3.alloc (.cells #[.slice none 0 0, .slice none 0 0] 39) = w4 := ⟨_, rfl⟩
  have hb4 : Below w3.heap.size w3 w4 := by rw [← hw4]; exact below_al w3 _
  have HF := Aside0.mk (show w4.heap[w3.heap.size]? = some (.cells #[.slice none 0 0, .slice none 0 0] 39 (0, 0)) by rw [← hw4]; exact heap_alloc_new w3 _)
  have HB4 := Aside0.mk (hb3.trans (hb4.mono hb3.size))
  obtain ⟨w5, hw5⟩ : ∃ w5, w4.alloc (.cells (madeCells #[.int .u8 0] 60) 5) = w5 := ⟨_, rfl⟩
  have hb5 : Below w4.heap.size w4 w5 := by rw [← hw5]; exact below_al w4 _
  have hz4 : w4.heap.size = w3.heap.size + 1 := by rw [← hw4]; simp
  have hmk60 : ∀ W : World, (Instr.makeSlice 22 (.int .i64 60) (.int .i64 60)).run Tryd.prog W = .ok (.slice (some ⟨W.heap.size, 0, none⟩) 60 60) (W.alloc (.cells (madeCells #[.int .u8 0] 60) 5)) :=
    fun W => run_make_row' 22 5 (.int .u8 0) 1 Tryd.underlying22 info_u8 rfl .i64 .i64 60 (by omega) (by omega) W
  have HE1 : Aside0 (Calls Tryd.prog 14 #[.slice (some ⟨w3.heap.size + 1, 0, none⟩) 60 60] w5 fun e w' => e = .returned (.tuple #[.slice none 0 0, .int .i64 2]) ∧ Below w5.heap.size w5 w') := ⟨Encode_bad (some ⟨w3.heap.size + 1, 0, none⟩) 60 (List.replicate 60 0) w5 (by rw [← hz4, ← hw5]; exact (CRow.made (Value.int .u8) (0 : Int) w4 5 60).reads (by decide)) (by decide) (by decide) (by decide)⟩
  have HW4 := Aside0.mk hw4
  have HW5 := Aside0.mk hw5
  clear hb3 hb4 HDEC hw4 hw5 hz4
  go_wp2_with fail
  rw [HW4.out, HW5.out]
  refine HE1.out.mono ?_
  rintro e w6 ⟨rfl, hb6⟩
  have hb46 : Below w4.heap.size w4 w6 := hb5.trans (hb6.mono hb5.size)
  have HB6 := Aside0.mk (HB4.out.trans (hb46.mono HB4.out.size))
  replace HF := Aside0.mk (blk_below HF.out hb46)
  have HE2 : Aside0 (Calls Tryd.prog 14 #[.slice none 0 0] w6 fun e w' => e = .returned (.tuple #[.slice none 0 0, .int .i64 2]) ∧ Below w6.heap.size w6 w') := ⟨Encode_bad none 0 [] w6 (Kd.C_nil _ _) (by decide) (by decide) (by decide)⟩
  clear hb5 hb6 hb46 HE1 hmk60 HW4 HW5
  go_wp2_with fail
  refine HE2.out.mono ?_
  rintro e w7 ⟨rfl, hb7⟩
  have HB7 := Aside0.mk (HB6.out.trans (hb7.mono HB6.out.size))
  replace HF := Aside0.mk (blk_below HF.out hb7)
  have HSY := HSYN.out w7 HB7.out
  clear hb7 HE2 HB6 HB4
  go_wp2_with fail
  refine HSY.out.mono ?_
  rintro e w8 ⟨rfl, hb8⟩
  have HB8 := Aside0.mk (HB7.out.trans (hb8.mono HB7.out.size))
  replace HF := Aside0.mk (blk_below HF.out hb8)
  obtain ⟨w9, hw9⟩ : ∃ w9, w8.alloc (.cells #[.int .i64 0, .int .i64 1, .int .i64 2, .int .i64 3, .int .i64 4] 3) = w9 := ⟨_, rfl⟩
  have hb9 : Below w8.heap.size w8 w9 := by rw [← hw9]; exact below_al w8 _
  have HB9 := Aside0.mk (HB8.out.trans (hb9.mono HB8.out.size))
  replace HF := Aside0.mk (blk_below HF.out hb9)
  have HD5 : Aside0 (Calls Tryd.prog 23 #[.slice (some ⟨g, 0, none⟩) L cg, .slice (some ⟨w8.heap.size, 0, none⟩) 5 5] w9 fun e w' => e = .returned (.tuple #[.agg #[.slice none 0 0, .slice none 0 0], .int .i64 190]) ∧ Below w9.heap.size w9 w') := ⟨by
    have h := Dec_places (some ⟨g, 0, none⟩) cg R (some ⟨w8.heap.size, 0, none⟩) [0, 1, 2, 3, 4] 5 w9 (by rw [HRL.out]; exact Kd.C_below HWB.out HB9.out) (by rw [HRL.out]; exact hcg) (by rw [HRL.out]; omega) (by rw [HRL.out]; omega) (by rw [← hw9]; exact lit_reads w8 .i64 3 [0, 1, 2, 3, 4] _ rfl 5 rfl (by omega)) (by decide) (by decide) (fun _ => by decide)
    rw [HRL.out] at h
    refine Calls.mono (show Calls _ _ #[.slice (some ⟨g, 0, none⟩) L cg, .slice (some ⟨w8.heap.size, 0, none⟩) 5 5] w9 _ from h) ?_
    rintro e w' ⟨m, rfl, hm, hb⟩
    rcases hm with ⟨_, hno⟩ | ⟨rfl, _⟩
    · exact absurd (five_ok hL5) hno
    · exact ⟨rfl, hb⟩⟩
  clear hb8 hb9 HSY HB7 HB8
  go_wp2_with fail
  refine HD5.out.mono ?_
  rintro e w10 ⟨rfl, hb10⟩
  obtain ⟨w11, hw11⟩ : ∃ w11, w10.alloc (.cells #[.slice none 0 0, .slice none 0 0] 39) = w11 := ⟨_, rfl⟩
  have hb11 : Below w10.heap.size w10 w11 := by rw [← hw11]; exact below_al w10 _
  have hb911 := hb10.trans (hb11.mono hb10.size)
  have HB11 := Aside0.mk (HB9.out.trans (hb911.mono HB9.out.size))
  have HF0 := HF
  replace HF := Aside0.mk (blk_below HF.out hb911)
  have hf0 : w11.cell? ⟨w3.heap.size, 0, none⟩ = some (.slice none 0 0) := by unfold World.cell?; rw [HF.out]; simp
  have hf1 : w11.cell? ⟨w3.heap.size, 1, none⟩ = some (.slice none 0 0) := by unfold World.cell?; rw [HF.out]; simp
  have hF10 := blk_below HF0.out hb10
  have he0 : w10.cell? ⟨w3.heap.size, 0, none⟩ = some (.slice none 0 0) := by unfold World.cell?; rw [hF10]; simp
  have he1 : w10.cell? ⟨w3.heap.size, 1, none⟩ = some (.slice none 0 0) := by unfold World.cell?; rw [hF10]; simp
  rw [← hw11] at hf0 hf1
  have HW11 := Aside0.mk hw11
  have HB11W := Aside0.mk (HBB.out.trans (HB11.out.mono HBB.out.size))
  have HVA := HVAL.out w11 HB11.out
  clear hb10 hb11 hb911 hw9 HD5 hw11 hF10
  go_wp2_with fail
  rw [HW11.out]
  refine HVA.out.mono ?_
  rintro e w12 ⟨rfl, hb12⟩
  have HB12 := Aside0.mk (HB11W.out.trans (hb12.mono HB11W.out.size))
  have HAW := Aside0.mk (awake_any w12 (HP.out.below HB12.out))
  clear hb12 HVA
  go_wp2_with fail
  refine HAW.out.mono ?_
  rintro e w13 ⟨rfl, hb13⟩
  have HB13 := Aside0.mk (HB12.out.trans (hb13.mono HB12.out.size))
  clear hb13
  go_wp2
  go_ret
  exact ⟨rfl, HB13.out⟩
set_option maxHeartbeats 16000000 in
set_option maxRecDepth 1000000 in
theorem wrong_1 (A0 : Option Addr) (c0 : Nat) (l0 : List Int) (way n : Int) (w : World) (hp : PW w) (hr0 : Kd.C (Kd.int .u8) w A0 l0.length l0) (hc0 : l0.length ≤ c0) (hl0 : l0.length ≤ 140737488351232) (hp0 : ∀ x ∈ l0, 0 ≤ x ∧ x < 256) (hw0 : 0 ≤ way) (hw1 : way < 256) (hn0 : -9223372036854775808 ≤ n) (hn1 : n ≤ 9223372036854775807) (hq : way % 7 = 1) :
    Calls Tryd.prog 8 #[.slice A0 l0.length c0, .int .u8 way, .int .i64 n] w fun e w' => e = .returned (.bool true) ∧ Below w.heap.size w w' := by
  have HCO := Aside0.mk (coded_any A0 c0 l0 w hp hr0 hc0 hl0 hp0)
  have HP := Aside0.mk hp
  have HDP := Aside0.mk (And.intro (dataG_pos l0) (dataG_le l0))
  clear hr0 hp0 hp
  obtain ⟨L, hL⟩ : ∃ L, L = (dataG l0).length + 4 := ⟨_, rfl⟩
  have hL5 : 5 ≤ L := by have := HDP.out; omega
  have hL63 : L ≤ 63 := by have := HDP.out; omega
  rw [← hL] at HCO
  clear hL
  have hmk64 : ∀ W : World, (Instr.makeSlice 22 (.int .i64 64) (.int .i64 64)).run Tryd.prog W = .ok (.slice (some ⟨W.heap.size, 0, none⟩) 64 64) (W.alloc (.cells (madeCells #[.int .u8 0] 64) 5)) :=
    fun W => run_make_row' 22 5 (.int .u8 0) 1 Tryd.underlying22 info_u8 rfl .i64 .i64 64 (by omega) (by omega) W
  go_enter Tryd.func8, Tryd.ntmps8
  go_wp2_with fail
  refine HCO.out.mono ?_
  rintro e w1 ⟨g, cg, rfl, hg, hcg, R, hRl, -, hRc, hRr, hb1⟩
  have HRR := Aside0.mk hRr
  have HRL := Aside0.mk hRl
  have HRC := Aside0.mk hRc
  have HB1 := Aside0.mk hb1
  have HO1 := Aside0.mk (World.ownsRow_lit (base := w1.heap.size) (e := 5) (size := 1) w1 #[] 0 (Nat.le_refl _) (by decide) rfl)
  have HB10 := Aside0.mk ((Below.refl _ w1).alloc (Nat.le_refl _) (.cells #[] 5))
  have hrd := hRr.reads (by rw [ns_length]; omega)
  rw [ns_length, hRl] at hrd
  have HRD1 := Aside0.mk (Kd.C_alloc hrd (.cells #[] 5))
  obtain ⟨X, hX⟩ : ∃ X, X = ns R := ⟨_, rfl⟩
  have HXL := Aside0.mk (show X.length = L by rw [hX, ns_length, hRl])
  rw [← hX] at HRD1
  have HX := Aside0.mk hX
  clear hX hg hRl hRc hRr hb1 hrd HCO
  go_wp2_with (first | (at_builtin; refine print_append_row (w0 := w1) w1.heap.size rfl _ _ 22 5 .u8 1 rfl Tryd.underlying22 info_u8 (by decide) _ [] X (some ⟨g, 0, none⟩) L cg rfl rfl HO1.out (Kd.reads_of_C HRD1.out) HB10.out HB10.out.size (by simp <;> omega) ?_; intro v2 w2 hown hB2 hg2 hat; have hown' : Own .u8 5 w2 w1.heap.size v2 X := (by simpa [Own] using hown); have hL0 : 0 < L := (by omega); obtain ⟨gb, cb, rfl, hcb, hgb, hrowb⟩ := own_crow' hown' HXL.out hL0; have HRB := Aside0.mk hrowb; have HGB := Aside0.mk hgb; have HB2 := Aside0.mk hB2;  clear hown hown' hB2 hg2 hat hrowb hgb hL0))
  obtain ⟨wB, hwB⟩ : ∃ wB, w2.alloc (.cells (madeCells #[.int .u8 0] 64) 5) = wB := ⟨_, rfl⟩
  have hbB : Below w2.heap.size w2 wB := by rw [← hwB]; exact below_al w2 _
  have HBB := Aside0.mk ((HB1.out.trans (HB2.out.mono HB1.out.size)).trans (hbB.mono (Nat.le_trans HB1.out.size HB2.out.size)))
  have HWB : Aside0 (Kd.C (Kd.int .u8) wB (some ⟨g, 0, none⟩) L (ns R)) := ⟨by
    have h := ((HRR.out.below HB2.out).below hbB).reads (by rw [ns_length, HRL.out]; omega)
    rwa [ns_length, HRL.out] at h⟩
  have HLB := Aside0.mk (show (List.replicate 64 (0 : Int)).length = 64 by decide)
  have HNW := Aside0.mk (noword_len (l := List.replicate 64 (0 : Int)) (.inr (by decide)))
  have HBAD : Aside0 (Kd.C (Kd.int .u8) wB (some ⟨w2.heap.size, 0, none⟩) 64 (List.replicate 64 0)) := ⟨by rw [← hwB]; exact (CRow.made (Value.int .u8) (0 : Int) w2 5 64).reads (by decide)⟩
  rw [hwB]
  clear hwB hbB hmk64
  have HSYN : Aside0 (∀ W', Below wB.heap.size wB W' → Aside0 (Calls Tryd.prog 15 #[.slice (some ⟨w2.heap.size, 0, none⟩) 64 64] W' fun e w' => e = .returned (.tuple #[.slice none 0 0, .int .i64 2]) ∧ Below W'.heap.size W' w')) := ⟨fun W' hb => ⟨by
    have h := Synd_bad (some ⟨w2.heap.size, 0, none⟩) 64 (List.replicate 64 (0 : Int)) W' (by rw [HLB.out]; exact Kd.C_below HBAD.out hb) (by rw [HLB.out]; decide) (by rw [HLB.out]; omega) HNW.out
    rw [HLB.out] at h
    exact h⟩⟩
  have HVAL : Aside0 (∀ W', Below wB.heap.size wB W' → Aside0 (Calls Tryd.prog 16 #[.slice (some ⟨w2.heap.size, 0, none⟩) 64 64] W' fun e w' => e = .returned (.bool false) ∧ Below W'.heap.size W' w')) := ⟨fun W' hb => ⟨by
    have h := Valid_bad (some ⟨w2.heap.size, 0, none⟩) 64 (List.replicate 64 (0 : Int)) W' (by rw [HLB.out]; exact Kd.C_below HBAD.out hb) (by rw [HLB.out]; decide) (by rw [HLB.out]; omega) HNW.out
    rw [HLB.out] at h
    exact h⟩⟩
  have HDEC : Aside0 (Calls Tryd.prog 23 #[.slice (some ⟨w2.heap.size, 0, none⟩) 64 64, .slice none 0 0] wB fun e w' => e = .returned (.tuple #[.agg #[.slice none 0 0, .slice none 0 0], .int .i64 2]) ∧ Below wB.heap.size wB w') := ⟨by
    have h := Dec_noword (some ⟨w2.heap.size, 0, none⟩) 64 (List.replicate 64 (0 : Int)) none 0 0 wB (by rw [HLB.out]; exact HBAD.out) (by rw [HLB.out]; decide) (by rw [HLB.out]; omega) HNW.out
    rw [HLB.out] at h
    exact h⟩
  refine HDEC.out.mono ?_
  rintro e w3 ⟨rfl, hb3⟩
  obtain ⟨w4, hw4⟩ : ∃ w4, w3.alloc (.cells #[.slice none 0 0, .slice none 0 0] 39) = w4 := ⟨_, rfl⟩
  have hb4 : Below w3.heap.size w3 w4 := by rw [← hw4]; exact below_al w3 _
  have HF := Aside0.mk (show w4.heap[w3.heap.size]? = some (.cells #[.slice none 0 0, .slice none 0 0] 39 (0, 0)) by rw [← hw4]; exact heap_alloc_new w3 _)
  have HB4 := Aside0.mk (hb3.trans (hb4.mono hb3.size))
  obtain ⟨w5, hw5⟩ : ∃ w5, w4.alloc (.cells (madeCells #[.int .u8 0] 60) 5) = w5 := ⟨_, rfl⟩
  have hb5 : Below w4.heap.size w4 w5 := by rw [← hw5]; exact below_al w4 _
  have hz4 : w4.heap.size = w3.heap.size + 1 := by rw [← hw4]; simp
  have hmk60 : ∀ W : World, (Instr.makeSlice 22 (.int .i64 60) (.int .i64 60)).run Tryd.prog W = .ok (.slice (some ⟨W.heap.size, 0, none⟩) 60 60) (W.alloc (.cells (madeCells #[.int .u8 0] 60) 5)) :=
    fun W => run_make_row' 22 5 (.int .u8 0) 1 Tryd.underlying22 info_u8 rfl .i64 .i64 60 (by omega) (by omega) W
  have HE1 : Aside0 (Calls Tryd.prog 14 #[.slice (some ⟨w3.heap.size + 1, 0, none⟩) 60 60] w5 fun e w' => e = .returned (.tuple #[.slice none 0 0, .int .i64 2]) ∧ Below w5.heap.size w5 w') := ⟨Encode_bad (some ⟨w3.heap.size + 1, 0, none⟩) 60 (List.replicate 60 0) w5 (by rw [← hz4, ← hw5]; exact (CRow.made (Value.int .u8) (0 : Int) w4 5 60).reads (by decide)) (by decide) (by decide) (by decide)⟩
  have HW4 := Aside0.mk hw4
  have HW5 := Aside0.mk hw5
  clear hb3 hb4 HDEC hw4 hw5 hz4
  go_wp2_with fail
  rw [HW4.out, HW5.out]
  refine HE1.out.mono ?_
  rintro e w6 ⟨rfl, hb6⟩
  have hb46 : Below w4.heap.size w4 w6 := hb5.trans (hb6.mono hb5.size)
  have HB6 := Aside0.mk (HB4.out.trans (hb46.mono HB4.out.size))
  replace HF := Aside0.mk (blk_below HF.out hb46)
  have HE2 : Aside0 (Calls Tryd.prog 14 #[.slice none 0 0] w6 fun e w' => e = .returned (.tuple #[.slice none 0 0, .int .i64 2]) ∧ Below w6.heap.size w6 w') := ⟨Encode_bad none 0 [] w6 (Kd.C_nil _ _) (by decide) (by decide) (by decide)⟩
  clear hb5 hb6 hb46 HE1 hmk60 HW4 HW5
  go_wp2_with fail
  refine HE2.out.mono ?_
  rintro e w7 ⟨rfl, hb7⟩
  have HB7 := Aside0.mk (HB6.out.trans (hb7.mono HB6.out.size))
  replace HF := Aside0.mk (blk_below HF.out hb7)
  have HSY := HSYN.out w7 HB7.out
  clear hb7 HE2 HB6 HB4
  go_wp2_with fail
  refine HSY.out.mono ?_
  rintro e w8 ⟨rfl, hb8⟩
  have HB8 := Aside0.mk (HB7.out.trans (hb8.mono HB7.out.size))
  replace HF := Aside0.mk (blk_below HF.out hb8)
  obtain ⟨w9, hw9⟩ : ∃ w9, w8.alloc (.cells #[.int .i64 0, .int .i64 1, .int .i64 2, .int .i64 3, .int .i64 4] 3) = w9 := ⟨_, rfl⟩
  have hb9 : Below w8.heap.size w8 w9 := by rw [← hw9]; exact below_al w8 _
  have HB9 := Aside0.mk (HB8.out.trans (hb9.mono HB8.out.size))
  replace HF := Aside0.mk (blk_below HF.out hb9)
  have HD5 : Aside0 (Calls Tryd.prog 23 #[.slice (some ⟨g, 0, none⟩) L cg, .slice (some ⟨w8.heap.size, 0, none⟩) 5 5] w9 fun e w' => e = .returned (.tuple #[.agg #[.slice none 0 0, .slice none 0 0], .int .i64 190]) ∧ Below w9.heap.size w9 w') := ⟨by
    have h := Dec_places (some ⟨g, 0, none⟩) cg R (some ⟨w8.heap.size, 0, none⟩) [0, 1, 2, 3, 4] 5 w9 (by rw [HRL.out]; exact Kd.C_below HWB.out HB9.out) (by rw [HRL.out]; exact hcg) (by rw [HRL.out]; omega) (by rw [HRL.out]; omega) (by rw [← hw9]; exact lit_reads w8 .i64 3 [0, 1, 2, 3, 4] _ rfl 5 rfl (by omega)) (by decide) (by decide) (fun _ => by decide)
    rw [HRL.out] at h
    refine Calls.mono (show Calls _ _ #[.slice (some ⟨g, 0, none⟩) L cg, .slice (some ⟨w8.heap.size, 0, none⟩) 5 5] w9 _ from h) ?_
    rintro e w' ⟨m, rfl, hm, hb⟩
    rcases hm with ⟨_, hno⟩ | ⟨rfl, _⟩
    · exact absurd (five_ok hL5) hno
    · exact ⟨rfl, hb⟩⟩
  clear hb8 hb9 HSY HB7 HB8
  go_wp2_with fail
  refine HD5.out.mono ?_
  rintro e w10 ⟨rfl, hb10⟩
  obtain ⟨w11, hw11⟩ : ∃ w11, w10.alloc (.cells #[.slice none 0 0, .slice none 0 0] 39) = w11 := ⟨_, rfl⟩
  have hb11 : Below w10.heap.size w10 w11 := by rw [← hw11]; exact below_al w10 _
  have hb911 := hb10.trans (hb11.mono hb10.size)
  have HB11 := Aside0.mk (HB9.out.trans (hb911.mono HB9.out.size))
  have HF0 := HF
  replace HF := Aside0.mk (blk_below HF.out hb911)
  have hf0 : w11.cell? ⟨w3.heap.size, 0, none⟩ = some (.slice none 0 0) := by unfold World.cell?; rw [HF.out]; simp
  have hf1 : w11.cell? ⟨w3.heap.size, 1, none⟩ = some (.slice none 0 0) := by unfold World.cell?; rw [HF.out]; simp
  have hF10 := blk_below HF0.out hb10
  have he0 : w10.cell? ⟨w3.heap.size, 0, none⟩ = some (.slice none 0 0) := by unfold World.cell?; rw [hF10]; simp
  have he1 : w10.cell? ⟨w3.heap.size, 1, none⟩ = some (.slice none 0 0) := by unfold World.cell?; rw [hF10]; simp
  rw [← hw11] at hf0 hf1
  have HW11 := Aside0.mk hw11
  have HB11W := Aside0.mk (HBB.out.trans (HB11.out.mono HBB.out.size))
  have HVA := HVAL.out w11 HB11.out
  clear hb10 hb11 hb911 hw9 HD5 hw11 hF10
  go_wp2_with fail
  rw [HW11.out]
  refine HVA.out.mono ?_
  rintro e w12 ⟨rfl, hb12⟩
  have HB12 := Aside0.mk (HB11W.out.trans (hb12.mono HB11W.out.size))
  have HAW := Aside0.mk (awake_any w12 (HP.out.below HB12.out))
  clear hb12 HVA
  go_wp2_with fail
  refine HAW.out.mono ?_
  rintro e w13 ⟨rfl, hb13⟩
  have HB13 := Aside0.mk (HB12.out.trans (hb13.mono HB12.out.size))
  clear hb13
  go_wp2
  go_ret
  exact ⟨rfl, HB13.out⟩
set_option maxHeartbeats 16000000 in
set_option maxRecDepth 1000000 in
theorem wrong_2 (A0 : Option Addr) (c0 : Nat) (l0 : List Int) (way n : Int) (w : World) (hp : PW w) (hr0 : Kd.C (Kd.int .u8) w A0 l0.length l0) (hc0 : l0.length ≤ c0) (hl0 : l0.length ≤ 140737488351232) (hp0 : ∀ x ∈ l0, 0 ≤ x ∧ x < 256) (hw0 : 0 ≤ way) (hw1 : way < 256) (hn0 : -9223372036854775808 ≤ n) (hn1 : n ≤ 9223372036854775807) (hq : way % 7 = 2) :
    Calls Tryd.prog 8 #[.slice A0 l0.length c0, .int .u8 way, .int .i64 n] w fun e w' => e = .returned (.bool true) ∧ Below w.heap.size w w' := by
  have HCO := Aside0.mk (coded_any A0 c0 l0 w hp hr0 hc0 hl0 hp0)
  have HP := Aside0.mk hp
  have HDP := Aside0.mk (And.intro (dataG_pos l0) (dataG_le l0))
  clear hr0 hp0 hp
  obtain ⟨L, hL⟩ : ∃ L, L = (dataG l0).length + 4 := ⟨_, rfl⟩
  have hL5 : 5 ≤ L := by have := HDP.out; omega
  have hL63 : L ≤ 63 := by have := HDP.out; omega
  rw [← hL] at HCO
  clear hL
  obtain ⟨i0, hi0⟩ : ∃ i0 : Nat, i0 = (way % (L : Int)).toNat := ⟨_, rfl⟩
  have hlp : (0 : Int) < (L : Int) := by omega
  have hm0 := Int.emod_nonneg way (show (L : Int) ≠ 0 by omega)
  have hm1 := Int.emod_lt_of_pos way hlp
  have hrem : way % (L : Int) = (i0 : Int) := by omega
  have htm : Int.tmod way (L : Int) = (i0 : Int) := by rw [Int.tmod_eq_emod_of_nonneg hw0]; exact hrem
  have hi0l : i0 < L := by omega
  have hbi0 : (0 : Int) ≤ (i0 : Int) ∧ (i0 : Int) < (L : Int) := by omega
  have hlz : ¬ ((L : Int) = 0) := by omega
  have hlzb : ((L : Int) == 0) = false := beq_eq_false_iff_ne.2 hlz
  clear hi0 hm0 hm1
  go_enter Tryd.func8, Tryd.ntmps8
  go_wp2_with fail
  refine HCO.out.mono ?_
  rintro e w1 ⟨g, cg, rfl, hg, hcg, R, hRl, -, hRc, hRr, hb1⟩
  have HRR := Aside0.mk hRr
  have HRL := Aside0.mk hRl
  have HRC := Aside0.mk hRc
  have HB1 := Aside0.mk hb1
  have HO1 := Aside0.mk (World.ownsRow_lit (base := w1.heap.size) (e := 5) (size := 1) w1 #[] 0 (Nat.le_refl _) (by decide) rfl)
  have HB10 := Aside0.mk ((Below.refl _ w1).alloc (Nat.le_refl _) (.cells #[] 5))
  have hrd := hRr.reads (by rw [ns_length]; omega)
  rw [ns_length, hRl] at hrd
  have HRD1 := Aside0.mk (Kd.C_alloc hrd (.cells #[] 5))
  obtain ⟨X, hX⟩ : ∃ X, X = ns R := ⟨_, rfl⟩
  have HXL := Aside0.mk (show X.length = L by rw [hX, ns_length, hRl])
  rw [← hX] at HRD1
  have HX := Aside0.mk hX
  clear hX hg hRl hRc hRr hb1 hrd HCO
  go_wp2_with (first | (at_builtin; refine print_append_row (w0 := w1) w1.heap.size rfl _ _ 22 5 .u8 1 rfl Tryd.underlying22 info_u8 (by decide) _ [] X (some ⟨g, 0, none⟩) L cg rfl rfl HO1.out (Kd.reads_of_C HRD1.out) HB10.out HB10.out.size (by simp <;> omega) ?_; intro v2 w2 hown hB2 hg2 hat; have hown' : Own .u8 5 w2 w1.heap.size v2 X := (by simpa [Own] using hown); have hL0 : 0 < L := (by omega); obtain ⟨gb, cb, rfl, hcb, hgb, hrowb⟩ := own_crow' hown' HXL.out hL0; have HRB := Aside0.mk hrowb; have HGB := Aside0.mk hgb; have HB2 := Aside0.mk hB2; have hcbi := hrowb.cell i0 (by rw [HXL.out]; exact hi0l); have hfbi := hrowb.free i0 (by rw [HXL.out]; exact hi0l); clear hown hown' hB2 hg2 hat hrowb hgb hL0))
  obtain ⟨v0, hv0⟩ : ∃ v0 : Int, v0 = 64 + way / 4 := ⟨_, rfl⟩
  have hv64 : 64 ≤ v0 := by omega
  rw [← hv0]
  obtain ⟨wB, hwB⟩ : ∃ wB, w2.setCell ⟨gb, i0, none⟩ (.int .u8 v0) = wB := ⟨_, rfl⟩
  have hgl := HRR.out.lt
  have hgb1 := HGB.out
  have hsz1 := HB1.out.size
  have HBB := Aside0.mk (show Below w.heap.size w wB by rw [← hwB]; exact (HB1.out.trans (HB2.out.mono HB1.out.size)).setCell (p := ⟨gb, i0, none⟩) (by simp; omega) _)
  have HWB : Aside0 (Kd.C (Kd.int .u8) wB (some ⟨g, 0, none⟩) L (ns R)) := ⟨by
    have h := ((HRR.out.below HB2.out).other gb i0 (.int .u8 v0) (by omega)).reads (by rw [ns_length, HRL.out]; omega)
    rw [hwB] at h
    rwa [ns_length, HRL.out] at h⟩
  have HLB := Aside0.mk (show (X.set i0 v0).length = L by rw [List.length_set, HXL.out])
  have HNW := Aside0.mk (noword_big (l := X.set i0 v0) i0 (by rw [HLB.out]; exact hi0l) (by rw [getD_set, if_pos ⟨rfl, by rw [HXL.out]; exact hi0l⟩]; exact hv64))
  have HBAD : Aside0 (Kd.C (Kd.int .u8) wB (some ⟨gb, 0, none⟩) L (X.set i0 v0)) := ⟨by
    have h := (HRB.out.set i0 (by rw [HXL.out]; exact hi0l) v0).reads (by rw [List.length_set, HXL.out]; omega)
    rw [hwB] at h
    rwa [HLB.out] at h⟩
  rw [hwB]
  clear hwB hv0 hgl hgb1 hsz1 hcbi hfbi
  have HSYN : Aside0 (∀ W', Below wB.heap.size wB W' → Aside0 (Calls Tryd.prog 15 #[.slice (some ⟨gb, 0, none⟩) L cb] W' fun e w' => e = .returned (.tuple #[.slice none 0 0, .int .i64 2]) ∧ Below W'.heap.size W' w')) := ⟨fun W' hb => ⟨by
    have h := Synd_bad (some ⟨gb, 0, none⟩) cb (X.set i0 v0) W' (by rw [HLB.out]; exact Kd.C_below HBAD.out hb) (by rw [HLB.out]; exact hcb) (by rw [HLB.out]; omega) HNW.out
    rw [HLB.out] at h
    exact h⟩⟩
  have HVAL : Aside0 (∀ W', Below wB.heap.size wB W' → Aside0 (Calls Tryd.prog 16 #[.slice (some ⟨gb, 0, none⟩) L cb] W' fun e w' => e = .returned (.bool false) ∧ Below W'.heap.size W' w')) := ⟨fun W' hb => ⟨by
    have h := Valid_bad (some ⟨gb, 0, none⟩) cb (X.set i0 v0) W' (by rw [HLB.out]; exact Kd.C_below HBAD.out hb) (by rw [HLB.out]; exact hcb) (by rw [HLB.out]; omega) HNW.out
    rw [HLB.out] at h
    exact h⟩⟩
  have HDEC : Aside0 (Calls Tryd.prog 23 #[.slice (some ⟨gb, 0, none⟩) L cb, .slice none 0 0] wB fun e w' => e = .returned (.tuple #[.agg #[.slice none 0 0, .slice none 0 0], .int .i64 2]) ∧ Below wB.heap.size wB w') := ⟨by
    have h := Dec_noword (some ⟨gb, 0, none⟩) cb (X.set i0 v0) none 0 0 wB (by rw [HLB.out]; exact HBAD.out) (by rw [HLB.out]; exact hcb) (by rw [HLB.out]; omega) HNW.out
    rw [HLB.out] at h
    exact h⟩
  refine HDEC.out.mono ?_
  rintro e w3 ⟨rfl, hb3⟩
  obtain ⟨w4, hw4⟩ : ∃ w4, w3.alloc (.cells #[.slice none 0 0, .slice none 0 0] 39) = w4 := ⟨_, rfl⟩
  have hb4 : Below w3.heap.size w3 w4 := by rw [← hw4]; exact below_al w3 _
  have HF := Aside0.mk (show w4.heap[w3.heap.size]? = some (.cells #[.slice none 0 0, .slice none 0 0] 39 (0, 0)) by rw [← hw4]; exact heap_alloc_new w3 _)
  have HB4 := Aside0.mk (hb3.trans (hb4.mono hb3.size))
  obtain ⟨w5, hw5⟩ : ∃ w5, w4.alloc (.cells (madeCells #[.int .u8 0] 60) 5) = w5 := ⟨_, rfl⟩
  have hb5 : Below w4.heap.size w4 w5 := by rw [← hw5]; exact below_al w4 _
  have hz4 : w4.heap.size = w3.heap.size + 1 := by rw [← hw4]; simp
  have hmk60 : ∀ W : World, (Instr.makeSlice 22 (.int .i64 60) (.int .i64 60)).run Tryd.prog W = .ok (.slice (some ⟨W.heap.size, 0, none⟩) 60 60) (W.alloc (.cells (madeCells #[.int .u8 0] 60) 5)) :=
    fun W => run_make_row' 22 5 (.int .u8 0) 1 Tryd.underlying22 info_u8 rfl .i64 .i64 60 (by omega) (by omega) W
  have HE1 : Aside0 (Calls Tryd.prog 14 #[.slice (some ⟨w3.heap.size + 1, 0, none⟩) 60 60] w5 fun e w' => e = .returned (.tuple #[.slice none 0 0, .int .i64 2]) ∧ Below w5.heap.size w5 w') := ⟨Encode_bad (some ⟨w3.heap.size + 1, 0, none⟩) 60 (List.replicate 60 0) w5 (by rw [← hz4, ← hw5]; exact (CRow.made (Value.int .u8) (0 : Int) w4 5 60).reads (by decide)) (by decide) (by decide) (by decide)⟩
  have HW4 := Aside0.mk hw4
  have HW5 := Aside0.mk hw5
  clear hb3 hb4 HDEC hw4 hw5 hz4
  go_wp2_with fail
  rw [HW4.out, HW5.out]
  refine HE1.out.mono ?_
  rintro e w6 ⟨rfl, hb6⟩
  have hb46 : Below w4.heap.size w4 w6 := hb5.trans (hb6.mono hb5.size)
  have HB6 := Aside0.mk (HB4.out.trans (hb46.mono HB4.out.size))
  replace HF := Aside0.mk (blk_below HF.out hb46)
  have HE2 : Aside0 (Calls Tryd.prog 14 #[.slice none 0 0] w6 fun e w' => e = .returned (.tuple #[.slice none 0 0, .int .i64 2]) ∧ Below w6.heap.size w6 w') := ⟨Encode_bad none 0 [] w6 (Kd.C_nil _ _) (by decide) (by decide) (by decide)⟩
  clear hb5 hb6 hb46 HE1 hmk60 HW4 HW5
  go_wp2_with fail
  refine HE2.out.mono ?_
  rintro e w7 ⟨rfl, hb7⟩
  have HB7 := Aside0.mk (HB6.out.trans (hb7.mono HB6.out.size))
  replace HF := Aside0.mk (blk_below HF.out hb7)
  have HSY := HSYN.out w7 HB7.out
  clear hb7 HE2 HB6 HB4
  go_wp2_with fail
  refine HSY.out.mono ?_
  rintro e w8 ⟨rfl, hb8⟩
  have HB8 := Aside0.mk (HB7.out.trans (hb8.mono HB7.out.size))
  replace HF := Aside0.mk (blk_below HF.out hb8)
  obtain ⟨w9, hw9⟩ : ∃ w9, w8.alloc (.cells #[.int .i64 0, .int .i64 1, .int .i64 2, .int .i64 3, .int .i64 4] 3) = w9 := ⟨_, rfl⟩
  have hb9 : Below w8.heap.size w8 w9 := by rw [← hw9]; exact below_al w8 _
  have HB9 := Aside0.mk (HB8.out.trans (hb9.mono HB8.out.size))
  replace HF := Aside0.mk (blk_below HF.out hb9)
  have HD5 : Aside0 (Calls Tryd.prog 23 #[.slice (some ⟨g, 0, none⟩) L cg, .slice (some ⟨w8.heap.size, 0, none⟩) 5 5] w9 fun e w' => e = .returned (.tuple #[.agg #[.slice none 0 0, .slice none 0 0], .int .i64 190]) ∧ Below w9.heap.size w9 w') := ⟨by
    have h := Dec_places (some ⟨g, 0, none⟩) cg R (some ⟨w8.heap.size, 0, none⟩) [0, 1, 2, 3, 4] 5 w9 (by rw [HRL.out]; exact Kd.C_below HWB.out HB9.out) (by rw [HRL.out]; exact hcg) (by rw [HRL.out]; omega) (by rw [HRL.out]; omega) (by rw [← hw9]; exact lit_reads w8 .i64 3 [0, 1, 2, 3, 4] _ rfl 5 rfl (by omega)) (by decide) (by decide) (fun _ => by decide)
    rw [HRL.out] at h
    refine Calls.mono (show Calls _ _ #[.slice (some ⟨g, 0, none⟩) L cg, .slice (some ⟨w8.heap.size, 0, none⟩) 5 5] w9 _ from h) ?_
    rintro e w' ⟨m, rfl, hm, hb⟩
    rcases hm with ⟨_, hno⟩ | ⟨rfl, _⟩
    · exact absurd (five_ok hL5) hno
    · exact ⟨rfl, hb⟩⟩
  clear hb8 hb9 HSY HB7 HB8
  go_wp2_with fail
  refine HD5.out.mono ?_
  rintro e w10 ⟨rfl, hb10⟩
  obtain ⟨w11, hw11⟩ : ∃ w11, w10.alloc (.cells #[.slice none 0 0, .slice none 0 0] 39) = w11 := ⟨_, rfl⟩
  have hb11 : Below w10.heap.size w10 w11 := by rw [← hw11]; exact below_al w10 _
  have hb911 := hb10.trans (hb11.mono hb10.size)
  have HB11 := Aside0.mk (HB9.out.trans (hb911.mono HB9.out.size))
  have HF0 := HF
  replace HF := Aside0.mk (blk_below HF.out hb911)
  have hf0 : w11.cell? ⟨w3.heap.size, 0, none⟩ = some (.slice none 0 0) := by unfold World.cell?; rw [HF.out]; simp
  have hf1 : w11.cell? ⟨w3.heap.size, 1, none⟩ = some (.slice none 0 0) := by unfold World.cell?; rw [HF.out]; simp
  have hF10 := blk_below HF0.out hb10
  have he0 : w10.cell? ⟨w3.heap.size, 0, none⟩ = some (.slice none 0 0) := by unfold World.cell?; rw [hF10]; simp
  have he1 : w10.cell? ⟨w3.heap.size, 1, none⟩ = some (.slice none 0 0) := by unfold World.cell?; rw [hF10]; simp
  rw [← hw11] at hf0 hf1
  have HW11 := Aside0.mk hw11
  have HB11W := Aside0.mk (HBB.out.trans (HB11.out.mono HBB.out.size))
  have HVA := HVAL.out w11 HB11.out
  clear hb10 hb11 hb911 hw9 HD5 hw11 hF10
  go_wp2_with fail
  rw [HW11.out]
  refine HVA.out.mono ?_
  rintro e w12 ⟨rfl, hb12⟩
  have HB12 := Aside0.mk (HB11W.out.trans (hb12.mono HB11W.out.size))
  have HAW := Aside0.mk (awake_any w12 (HP.out.below HB12.out))
  clear hb12 HVA
  go_wp2_with fail
  refine HAW.out.mono ?_
  rintro e w13 ⟨rfl, hb13⟩
  have HB13 := Aside0.mk (HB12.out.trans (hb13.mono HB12.out.size))
  clear hb13
  go_wp2
  go_ret
  exact ⟨rfl, HB13.out⟩
set_option maxHeartbeats 16000000 in
set_option maxRecDepth 1000000 in
theorem wrong_3 (A0 : Option Addr) (c0 : Nat) (l0 : List Int) (way n : Int) (w : World) (hp : PW w) (hr0 : Kd.C (Kd.int .u8) w A0 l0.length l0) (hc0 : l0.length ≤ c0) (hl0 : l0.length ≤ 140737488351232) (hp0 : ∀ x ∈ l0, 0 ≤ x ∧ x < 256) (hw0 : 0 ≤ way) (hw1 : way < 256) (hn0 : -9223372036854775808 ≤ n) (hn1 : n ≤ 9223372036854775807) (hq : way % 7 = 3) :
    Calls Tryd.prog 8 #[.slice A0 l0.length c0, .int .u8 way, .int .i64 n] w fun e w' => e = .returned (.bool true) ∧ Below w.heap.size w w' := by
  have HCO := Aside0.mk (coded_any A0 c0 l0 w hp hr0 hc0 hl0 hp0)
  have HP := Aside0.mk hp
  have HDP := Aside0.mk (And.intro (dataG_pos l0) (dataG_le l0))
  clear hr0 hp0 hp
  obtain ⟨L, hL⟩ : ∃ L, L = (dataG l0).length + 4 := ⟨_, rfl⟩
  have hL5 : 5 ≤ L := by have := HDP.out; omega
  have hL63 : L ≤ 63 := by have := HDP.out; omega
  rw [← hL] at HCO
  clear hL
  obtain ⟨e0, he0⟩ : ∃ e0 : Int, e0 = if n < (L : Int) then (L : Int) else n := ⟨_, rfl⟩
  have hmx : (if n < (L : Int) then (L : Int) else n) = e0 := he0.symm
  have HE0 := Aside0.mk (show (L : Int) ≤ e0 by rw [he0]; split <;> omega)
  clear he0
  go_enter Tryd.func8, Tryd.ntmps8
  go_wp2_with fail
  refine HCO.out.mono ?_
  rintro e w1 ⟨g, cg, rfl, hg, hcg, R, hRl, -, hRc, hRr, hb1⟩
  have HRR := Aside0.mk hRr
  have HRL := Aside0.mk hRl
  have HRC := Aside0.mk hRc
  have HB1 := Aside0.mk hb1
  have HO1 := Aside0.mk (World.ownsRow_lit (base := w1.heap.size) (e := 5) (size := 1) w1 #[] 0 (Nat.le_refl _) (by decide) rfl)
  have HB10 := Aside0.mk ((Below.refl _ w1).alloc (Nat.le_refl _) (.cells #[] 5))
  have hrd := hRr.reads (by rw [ns_length]; omega)
  rw [ns_length, hRl] at hrd
  have HRD1 := Aside0.mk (Kd.C_alloc hrd (.cells #[] 5))
  obtain ⟨X, hX⟩ : ∃ X, X = ns R := ⟨_, rfl⟩
  have HXL := Aside0.mk (show X.length = L by rw [hX, ns_length, hRl])
  rw [← hX] at HRD1
  have HX := Aside0.mk hX
  clear hX hg hRl hRc hRr hb1 hrd HCO
  go_wp2_with (first | (at_builtin; refine print_append_row (w0 := w1) w1.heap.size rfl _ _ 22 5 .u8 1 rfl Tryd.underlying22 info_u8 (by decide) _ [] X (some ⟨g, 0, none⟩) L cg rfl rfl HO1.out (Kd.reads_of_C HRD1.out) HB10.out HB10.out.size (by simp <;> omega) ?_; intro v2 w2 hown hB2 hg2 hat; have hown' : Own .u8 5 w2 w1.heap.size v2 X := (by simpa [Own] using hown); have hL0 : 0 < L := (by omega); obtain ⟨gb, cb, rfl, hcb, hgb, hrowb⟩ := own_crow' hown' HXL.out hL0; have HRB := Aside0.mk hrowb; have HGB := Aside0.mk hgb; have HB2 := Aside0.mk hB2;  clear hown hown' hB2 hg2 hat hrowb hgb hL0))
  obtain ⟨wB, hwB⟩ : ∃ wB, w2.alloc (.cells #[.int .i64 e0] 3) = wB := ⟨_, rfl⟩
  have hbB : Below w2.heap.size w2 wB := by rw [← hwB]; exact below_al w2 _
  have HBB := Aside0.mk ((HB1.out.trans (HB2.out.mono HB1.out.size)).trans (hbB.mono (Nat.le_trans HB1.out.size HB2.out.size)))
  have HWB : Aside0 (Kd.C (Kd.int .u8) wB (some ⟨g, 0, none⟩) L (ns R)) := ⟨by
    have h := ((HRR.out.below HB2.out).below hbB).reads (by rw [ns_length, HRL.out]; omega)
    rwa [ns_length, HRL.out] at h⟩
  have HRDB : Aside0 (∀ W', Below wB.heap.size wB W' → Kd.C (Kd.int .u8) W' (some ⟨gb, 0, none⟩) R.length (ns R)) := ⟨fun W' hb => by
    have h := ((HRB.out.below hbB).below hb).reads (by rw [HXL.out]; omega)
    rw [HXL.out, ← HRL.out, HX.out] at h
    exact h⟩
  have HSYN : Aside0 (∀ W', Below wB.heap.size wB W' → Aside0 (Calls Tryd.prog 15 #[.slice (some ⟨gb, 0, none⟩) L cb] W' fun e w' => ∃ gs, e = .returned (.tuple #[.slice (some ⟨gs, 0, none⟩) 4 4, .int .i64 0]) ∧ Below W'.heap.size W' w')) := ⟨fun W' hb => ⟨by
    have h := Synd_ok (some ⟨gb, 0, none⟩) cb R W' (HP.out.below (HBB.out.trans (hb.mono HBB.out.size))) (HRDB.out W' hb) (by rw [HRL.out]; exact hcb) (by rw [HRL.out]; omega) (by rw [HRL.out]; omega)
    rw [HRL.out] at h
    refine h.mono ?_
    rintro e w' ⟨gs, _, rfl, _, hb⟩
    exact ⟨gs, rfl, hb⟩⟩⟩
  have HDEC : Aside0 (Calls Tryd.prog 23 #[.slice (some ⟨gb, 0, none⟩) L cb, .slice (some ⟨w2.heap.size, 0, none⟩) 1 1] wB fun e w' => e = .returned (.tuple #[.agg #[.slice none 0 0, .slice none 0 0], .int .i64 2]) ∧ Below wB.heap.size wB w') := ⟨by
    have hno : ¬ ∀ i, i < [e0].length → okAt R.length [e0] i := by
      intro h
      have h1 := h 0 (by simp)
      have h2 := HE0.out
      unfold okAt at h1
      have h3 : [e0].getD 0 0 = e0 := rfl
      rw [h3, HRL.out] at h1
      omega
    have h := Dec_places (some ⟨gb, 0, none⟩) cb R (some ⟨w2.heap.size, 0, none⟩) [e0] 1 wB (HRDB.out _ (Below.refl _ _)) (by rw [HRL.out]; exact hcb) (by rw [HRL.out]; omega) (by rw [HRL.out]; omega) (by rw [← hwB]; exact lit_reads w2 .i64 3 [e0] _ rfl 1 rfl (by omega)) (by simp) (by simp) (fun h => absurd h hno)
    rw [HRL.out] at h
    refine Calls.mono (show Calls _ _ #[.slice (some ⟨gb, 0, none⟩) L cb, .slice (some ⟨w2.heap.size, 0, none⟩) 1 1] wB _ from h) ?_
    rintro e w' ⟨m, rfl, hm, hb⟩
    rcases hm with ⟨rfl, _⟩ | ⟨_, hok⟩
    · exact ⟨rfl, hb⟩
    · rw [← HRL.out] at hok
      exact absurd hok hno⟩
  rw [hwB]
  clear hwB hbB
  refine HDEC.out.mono ?_
  rintro e w3 ⟨rfl, hb3⟩
  obtain ⟨w4, hw4⟩ : ∃ w4, w3.alloc (.cells #[.slice none 0 0, .slice none 0 0] 39) = w4 := ⟨_, rfl⟩
  have hb4 : Below w3.heap.size w3 w4 := by rw [← hw4]; exact below_al w3 _
  have HF := Aside0.mk (show w4.heap[w3.heap.size]? = some (.cells #[.slice none 0 0, .slice none 0 0] 39 (0, 0)) by rw [← hw4]; exact heap_alloc_new w3 _)
  have HB4 := Aside0.mk (hb3.trans (hb4.mono hb3.size))
  obtain ⟨w5, hw5⟩ : ∃ w5, w4.alloc (.cells (madeCells #[.int .u8 0] 60) 5) = w5 := ⟨_, rfl⟩
  have hb5 : Below w4.heap.size w4 w5 := by rw [← hw5]; exact below_al w4 _
  have hz4 : w4.heap.size = w3.heap.size + 1 := by rw [← hw4]; simp
  have hmk60 : ∀ W : World, (Instr.makeSlice 22 (.int .i64 60) (.int .i64 60)).run Tryd.prog W = .ok (.slice (some ⟨W.heap.size, 0, none⟩) 60 60) (W.alloc (.cells (madeCells #[.int .u8 0] 60) 5)) :=
    fun W => run_make_row' 22 5 (.int .u8 0) 1 Tryd.underlying22 info_u8 rfl .i64 .i64 60 (by omega) (by omega) W
  have HE1 : Aside0 (Calls Tryd.prog 14 #[.slice (some ⟨w3.heap.size + 1, 0, none⟩) 60 60] w5 fun e w' => e = .returned (.tuple #[.slice none 0 0, .int .i64 2]) ∧ Below w5.heap.size w5 w') := ⟨Encode_bad (some ⟨w3.heap.size + 1, 0, none⟩) 60 (List.replicate 60 0) w5 (by rw [← hz4, ← hw5]; exact (CRow.made (Value.int .u8) (0 : Int) w4 5 60).reads (by decide)) (by decide) (by decide) (by decide)⟩
  have HW4 := Aside0.mk hw4
  have HW5 := Aside0.mk hw5
  clear hb3 hb4 HDEC hw4 hw5 hz4
  go_wp2_with fail
  rw [HW4.out, HW5.out]
  refine HE1.out.mono ?_
  rintro e w6 ⟨rfl, hb6⟩
  have hb46 : Below w4.heap.size w4 w6 := hb5.trans (hb6.mono hb5.size)
  have HB6 := Aside0.mk (HB4.out.trans (hb46.mono HB4.out.size))
  replace HF := Aside0.mk (blk_below HF.out hb46)
  have HE2 : Aside0 (Calls Tryd.prog 14 #[.slice none 0 0] w6 fun e w' => e = .returned (.tuple #[.slice none 0 0, .int .i64 2]) ∧ Below w6.heap.size w6 w') := ⟨Encode_bad none 0 [] w6 (Kd.C_nil _ _) (by decide) (by decide) (by decide)⟩
  clear hb5 hb6 hb46 HE1 hmk60 HW4 HW5
  go_wp2_with fail
  refine HE2.out.mono ?_
  rintro e w7 ⟨rfl, hb7⟩
  have HB7 := Aside0.mk (HB6.out.trans (hb7.mono HB6.out.size))
  replace HF := Aside0.mk (blk_below HF.out hb7)
  have HSY := HSYN.out w7 HB7.out
  clear hb7 HE2 HB6 HB4
  go_wp2_with fail
  refine HSY.out.mono ?_
  rintro e w8 ⟨gs, rfl, hb8⟩
  have HB8 := Aside0.mk (HB7.out.trans (hb8.mono HB7.out.size))
  replace HF := Aside0.mk (blk_below HF.out hb8)
  obtain ⟨w9, hw9⟩ : ∃ w9, w8.alloc (.cells #[.int .i64 0, .int .i64 1, .int .i64 2, .int .i64 3, .int .i64 4] 3) = w9 := ⟨_, rfl⟩
  have hb9 : Below w8.heap.size w8 w9 := by rw [← hw9]; exact below_al w8 _
  have HB9 := Aside0.mk (HB8.out.trans (hb9.mono HB8.out.size))
  replace HF := Aside0.mk (blk_below HF.out hb9)
  have HD5 : Aside0 (Calls Tryd.prog 23 #[.slice (some ⟨g, 0, none⟩) L cg, .slice (some ⟨w8.heap.size, 0, none⟩) 5 5] w9 fun e w' => e = .returned (.tuple #[.agg #[.slice none 0 0, .slice none 0 0], .int .i64 190]) ∧ Below w9.heap.size w9 w') := ⟨by
    have h := Dec_places (some ⟨g, 0, none⟩) cg R (some ⟨w8.heap.size, 0, none⟩) [0, 1, 2, 3, 4] 5 w9 (by rw [HRL.out]; exact Kd.C_below HWB.out HB9.out) (by rw [HRL.out]; exact hcg) (by rw [HRL.out]; omega) (by rw [HRL.out]; omega) (by rw [← hw9]; exact lit_reads w8 .i64 3 [0, 1, 2, 3, 4] _ rfl 5 rfl (by omega)) (by decide) (by decide) (fun _ => by decide)
    rw [HRL.out] at h
    refine Calls.mono (show Calls _ _ #[.slice (some ⟨g, 0, none⟩) L cg, .slice (some ⟨w8.heap.size, 0, none⟩) 5 5] w9 _ from h) ?_
    rintro e w' ⟨m, rfl, hm, hb⟩
    rcases hm with ⟨_, hno⟩ | ⟨rfl, _⟩
    · exact absurd (five_ok hL5) hno
    · exact ⟨rfl, hb⟩⟩
  clear hb8 hb9 HSY HB7 HB8
  go_wp2_with fail
  refine HD5.out.mono ?_
  rintro e w10 ⟨rfl, hb10⟩
  obtain ⟨w11, hw11⟩ : ∃ w11, w10.alloc (.cells #[.slice none 0 0, .slice none 0 0] 39) = w11 := ⟨_, rfl⟩
  have hb11 : Below w10.heap.size w10 w11 := by rw [← hw11]; exact below_al w10 _
  have hb911 := hb10.trans (hb11.mono hb10.size)
  have HB11 := Aside0.mk (HB9.out.trans (hb911.mono HB9.out.size))
  have HF0 := HF
  replace HF := Aside0.mk (blk_below HF.out hb911)
  have hf0 : w11.cell? ⟨w3.heap.size, 0, none⟩ = some (.slice none 0 0) := by unfold World.cell?; rw [HF.out]; simp
  have hf1 : w11.cell? ⟨w3.heap.size, 1, none⟩ = some (.slice none 0 0) := by unfold World.cell?; rw [HF.out]; simp
  have hF10 := blk_below HF0.out hb10
  have he0 : w10.cell? ⟨w3.heap.size, 0, none⟩ = some (.slice none 0 0) := by unfold World.cell?; rw [hF10]; simp
  have he1 : w10.cell? ⟨w3.heap.size, 1, none⟩ = some (.slice none 0 0) := by unfold World.cell?; rw [hF10]; simp
  rw [← hw11] at hf0 hf1
  have HW11 := Aside0.mk hw11
  have HB11W := Aside0.mk (HBB.out.trans (HB11.out.mono HBB.out.size))
  have HB12 := HB11W
  have HAW := Aside0.mk (awake_any w11 (HP.out.below HB12.out))
  clear hb10 hb11 hb911 hw9 HD5 hw11 hF10
  go_wp2_with fail
  rw [HW11.out]
  refine HAW.out.mono ?_
  rintro e w13 ⟨rfl, hb13⟩
  have HB13 := Aside0.mk (HB12.out.trans (hb13.mono HB12.out.size))
  clear hb13
  go_wp2
  go_ret
  exact ⟨rfl, HB13.out⟩
set_option maxHeartbeats 16000000 in
set_option maxRecDepth 1000000 in
theorem wrong_4 (A0 : Option Addr) (c0 : Nat) (l0 : List Int) (way n : Int) (w : World) (hp : PW w) (hr0 : Kd.C (Kd.int .u8) w A0 l0.length l0) (hc0 : l0.length ≤ c0) (hl0 : l0.length ≤ 140737488351232) (hp0 : ∀ x ∈ l0, 0 ≤ x ∧ x < 256) (hw0 : 0 ≤ way) (hw1 : way < 256) (hn0 : -9223372036854775808 ≤ n) (hn1 : n ≤ 9223372036854775807) (hq : way % 7 = 4) :
    Calls Tryd.prog 8 #[.slice A0 l0.length c0, .int .u8 way, .int .i64 n] w fun e w' => e = .returned (.bool true) ∧ Below w.heap.size w w' := by
  have HCO := Aside0.mk (coded_any A0 c0 l0 w hp hr0 hc0 hl0 hp0)
  have HP := Aside0.mk hp
  have HDP := Aside0.mk (And.intro (dataG_pos l0) (dataG_le l0))
  clear hr0 hp0 hp
  obtain ⟨L, hL⟩ : ∃ L, L = (dataG l0).length + 4 := ⟨_, rfl⟩
  have hL5 : 5 ≤ L := by have := HDP.out; omega
  have hL63 : L ≤ 63 := by have := HDP.out; omega
  rw [← hL] at HCO
  clear hL
  obtain ⟨e0, he0⟩ : ∃ e0 : Int, e0 = if (-1 : Int) < n then (-1 : Int) else n := ⟨_, rfl⟩
  have hmx : (if (-1 : Int) < n then (-1 : Int) else n) = e0 := he0.symm
  have HE0 := Aside0.mk (show e0 < 0 by rw [he0]; split <;> omega)
  clear he0
  go_enter Tryd.func8, Tryd.ntmps8
  go_wp2_with fail
  refine HCO.out.mono ?_
  rintro e w1 ⟨g, cg, rfl, hg, hcg, R, hRl, -, hRc, hRr, hb1⟩
  have HRR := Aside0.mk hRr
  have HRL := Aside0.mk hRl
  have HRC := Aside0.mk hRc
  have HB1 := Aside0.mk hb1
  have HO1 := Aside0.mk (World.ownsRow_lit (base := w1.heap.size) (e := 5) (size := 1) w1 #[] 0 (Nat.le_refl _) (by decide) rfl)
  have HB10 := Aside0.mk ((Below.refl _ w1).alloc (Nat.le_refl _) (.cells #[] 5))
  have hrd := hRr.reads (by rw [ns_length]; omega)
  rw [ns_length, hRl] at hrd
  have HRD1 := Aside0.mk (Kd.C_alloc hrd (.cells #[] 5))
  obtain ⟨X, hX⟩ : ∃ X, X = ns R := ⟨_, rfl⟩
  have HXL := Aside0.mk (show X.length = L by rw [hX, ns_length, hRl])
  rw [← hX] at HRD1
  have HX := Aside0.mk hX
  clear hX hg hRl hRc hRr hb1 hrd HCO
  go_wp2_with (first | (at_builtin; refine print_append_row (w0 := w1) w1.heap.size rfl _ _ 22 5 .u8 1 rfl Tryd.underlying22 info_u8 (by decide) _ [] X (some ⟨g, 0, none⟩) L cg rfl rfl HO1.out (Kd.reads_of_C HRD1.out) HB10.out HB10.out.size (by simp <;> omega) ?_; intro v2 w2 hown hB2 hg2 hat; have hown' : Own .u8 5 w2 w1.heap.size v2 X := (by simpa [Own] using hown); have hL0 : 0 < L := (by omega); obtain ⟨gb, cb, rfl, hcb, hgb, hrowb⟩ := own_crow' hown' HXL.out hL0; have HRB := Aside0.mk hrowb; have HGB := Aside0.mk hgb; have HB2 := Aside0.mk hB2;  clear hown hown' hB2 hg2 hat hrowb hgb hL0))
  obtain ⟨wB, hwB⟩ : ∃ wB, w2.alloc (.cells #[.int .i64 e0] 3) = wB := ⟨_, rfl⟩
  have hbB : Below w2.heap.size w2 wB := by rw [← hwB]; exact below_al w2 _
  have HBB := Aside0.mk ((HB1.out.trans (HB2.out.mono HB1.out.size)).trans (hbB.mono (Nat.le_trans HB1.out.size HB2.out.size)))
  have HWB : Aside0 (Kd.C (Kd.int .u8) wB (some ⟨g, 0, none⟩) L (ns R)) := ⟨by
    have h := ((HRR.out.below HB2.out).below hbB).reads (by rw [ns_length, HRL.out]; omega)
    rwa [ns_length, HRL.out] at h⟩
  have HRDB : Aside0 (∀ W', Below wB.heap.size wB W' → Kd.C (Kd.int .u8) W' (some ⟨gb, 0, none⟩) R.length (ns R)) := ⟨fun W' hb => by
    have h := ((HRB.out.below hbB).below hb).reads (by rw [HXL.out]; omega)
    rw [HXL.out, ← HRL.out, HX.out] at h
    exact h⟩
  have HSYN : Aside0 (∀ W', Below wB.heap.size wB W' → Aside0 (Calls Tryd.prog 15 #[.slice (some ⟨gb, 0, none⟩) L cb] W' fun e w' => ∃ gs, e = .returned (.tuple #[.slice (some ⟨gs, 0, none⟩) 4 4, .int .i64 0]) ∧ Below W'.heap.size W' w')) := ⟨fun W' hb => ⟨by
    have h := Synd_ok (some ⟨gb, 0, none⟩) cb R W' (HP.out.below (HBB.out.trans (hb.mono HBB.out.size))) (HRDB.out W' hb) (by rw [HRL.out]; exact hcb) (by rw [HRL.out]; omega) (by rw [HRL.out]; omega)
    rw [HRL.out] at h
    refine h.mono ?_
    rintro e w' ⟨gs, _, rfl, _, hb⟩
    exact ⟨gs, rfl, hb⟩⟩⟩
  have HDEC : Aside0 (Calls Tryd.prog 23 #[.slice (some ⟨gb, 0, none⟩) L cb, .slice (some ⟨w2.heap.size, 0, none⟩) 1 1] wB fun e w' => e = .returned (.tuple #[.agg #[.slice none 0 0, .slice none 0 0], .int .i64 2]) ∧ Below wB.heap.size wB w') := ⟨by
    have hno : ¬ ∀ i, i < [e0].length → okAt R.length [e0] i := by
      intro h
      have h1 := h 0 (by simp)
      have h2 := HE0.out
      unfold okAt at h1
      have h3 : [e0].getD 0 0 = e0 := rfl
      rw [h3] at h1
      omega
    have h := Dec_places (some ⟨gb, 0, none⟩) cb R (some ⟨w2.heap.size, 0, none⟩) [e0] 1 wB (HRDB.out _ (Below.refl _ _)) (by rw [HRL.out]; exact hcb) (by rw [HRL.out]; omega) (by rw [HRL.out]; omega) (by rw [← hwB]; exact lit_reads w2 .i64 3 [e0] _ rfl 1 rfl (by omega)) (by simp) (by simp) (fun h => absurd h hno)
    rw [HRL.out] at h
    refine Calls.mono (show Calls _ _ #[.slice (some ⟨gb, 0, none⟩) L cb, .slice (some ⟨w2.heap.size, 0, none⟩) 1 1] wB _ from h) ?_
    rintro e w' ⟨m, rfl, hm, hb⟩
    rcases hm with ⟨rfl, _⟩ | ⟨_, hok⟩
    · exact ⟨rfl, hb⟩
    · rw [← HRL.out] at hok
      exact absurd hok hno⟩
  rw [hwB]
  clear hwB hbB
  refine HDEC.out.mono ?_
  rintro e w3 ⟨rfl, hb3⟩
  obtain ⟨w4, hw4⟩ : ∃ w4, w3.alloc (.cells #[.slice none 0 0, .slice none 0 0] 39) = w4 := ⟨_, rfl⟩
  have hb4 : Below w3.heap.size w3 w4 := by rw [← hw4]; exact below_al w3 _
  have HF := Aside0.mk (show w4.heap[w3.heap.size]? = some (.cells #[.slice none 0 0, .slice none 0 0] 39 (0, 0)) by rw [← hw4]; exact heap_alloc_new w3 _)
  have HB4 := Aside0.mk (hb3.trans (hb4.mono hb3.size))
  obtain ⟨w5, hw5⟩ : ∃ w5, w4.alloc (.cells (madeCells #[.int .u8 0] 60) 5) = w5 := ⟨_, rfl⟩
  have hb5 : Below w4.heap.size w4 w5 := by rw [← hw5]; exact below_al w4 _
  have hz4 : w4.heap.size = w3.heap.size + 1 := by rw [← hw4]; simp
  have hmk60 : ∀ W : World, (Instr.makeSlice 22 (.int .i64 60) (.int .i64 60)).run Tryd.prog W = .ok (.slice (some ⟨W.heap.size, 0, none⟩) 60 60) (W.alloc (.cells (madeCells #[.int .u8 0] 60) 5)) :=
    fun W => run_make_row' 22 5 (.int .u8 0) 1 Tryd.underlying22 info_u8 rfl .i64 .i64 60 (by omega) (by omega) W
  have HE1 : Aside0 (Calls Tryd.prog 14 #[.slice (some ⟨w3.heap.size + 1, 0, none⟩) 60 60] w5 fun e w' => e = .returned (.tuple #[.slice none 0 0, .int .i64 2]) ∧ Below w5.heap.size w5 w') := ⟨Encode_bad (some ⟨w3.heap.size + 1, 0, none⟩) 60 (List.replicate 60 0) w5 (by rw [← hz4, ← hw5]; exact (CRow.made (Value.int .u8) (0 : Int) w4 5 60).reads (by decide)) (by decide) (by decide) (by decide)⟩
  have HW4 := Aside0.mk hw4
  have HW5 := Aside0.mk hw5
  clear hb3 hb4 HDEC hw4 hw5 hz4
  go_wp2_with fail
  rw [HW4.out, HW5.out]
  refine HE1.out.mono ?_
  rintro e w6 ⟨rfl, hb6⟩
  have hb46 : Below w4.heap.size w4 w6 := hb5.trans (hb6.mono hb5.size)
  have HB6 := Aside0.mk (HB4.out.trans (hb46.mono HB4.out.size))
  replace HF := Aside0.mk (blk_below HF.out hb46)
  have HE2 : Aside0 (Calls Tryd.prog 14 #[.slice none 0 0] w6 fun e w' => e = .returned (.tuple #[.slice none 0 0, .int .i64 2]) ∧ Below w6.heap.size w6 w') := ⟨Encode_bad none 0 [] w6 (Kd.C_nil _ _) (by decide) (by decide) (by decide)⟩
  clear hb5 hb6 hb46 HE1 hmk60 HW4 HW5
  go_wp2_with fail
  refine HE2.out.mono ?_
  rintro e w7 ⟨rfl, hb7⟩
  have HB7 := Aside0.mk (HB6.out.trans (hb7.mono HB6.out.size))
  replace HF := Aside0.mk (blk_below HF.out hb7)
  have HSY := HSYN.out w7 HB7.out
  clear hb7 HE2 HB6 HB4
  go_wp2_with fail
  refine HSY.out.mono ?_
  rintro e w8 ⟨gs, rfl, hb8⟩
  have HB8 := Aside0.mk (HB7.out.trans (hb8.mono HB7.out.size))
  replace HF := Aside0.mk (blk_below HF.out hb8)
  obtain ⟨w9, hw9⟩ : ∃ w9, w8.alloc (.cells #[.int .i64 0, .int .i64 1, .int .i64 2, .int .i64 3, .int .i64 4] 3) = w9 := ⟨_, rfl⟩
  have hb9 : Below w8.heap.size w8 w9 := by rw [← hw9]; exact below_al w8 _
  have HB9 := Aside0.mk (HB8.out.trans (hb9.mono HB8.out.size))
  replace HF := Aside0.mk (blk_below HF.out hb9)
  have HD5 : Aside0 (Calls Tryd.prog 23 #[.slice (some ⟨g, 0, none⟩) L cg, .slice (some ⟨w8.heap.size, 0, none⟩) 5 5] w9 fun e w' => e = .returned (.tuple #[.agg #[.slice none 0 0, .slice none 0 0], .int .i64 190]) ∧ Below w9.heap.size w9 w') := ⟨by
    have h := Dec_places (some ⟨g, 0, none⟩) cg R (some ⟨w8.heap.size, 0, none⟩) [0, 1, 2, 3, 4] 5 w9 (by rw [HRL.out]; exact Kd.C_below HWB.out HB9.out) (by rw [HRL.out]; exact hcg) (by rw [HRL.out]; omega) (by rw [HRL.out]; omega) (by rw [← hw9]; exact lit_reads w8 .i64 3 [0, 1, 2, 3, 4] _ rfl 5 rfl (by omega)) (by decide) (by decide) (fun _ => by decide)
    rw [HRL.out] at h
    refine Calls.mono (show Calls _ _ #[.slice (some ⟨g, 0, none⟩) L cg, .slice (some ⟨w8.heap.size, 0, none⟩) 5 5] w9 _ from h) ?_
    rintro e w' ⟨m, rfl, hm, hb⟩
    rcases hm with ⟨_, hno⟩ | ⟨rfl, _⟩
    · exact absurd (five_ok hL5) hno
    · exact ⟨rfl, hb⟩⟩
  clear hb8 hb9 HSY HB7 HB8
  go_wp2_with fail
  refine HD5.out.mono ?_
  rintro e w10 ⟨rfl, hb10⟩
  obtain ⟨w11, hw11⟩ : ∃ w11, w10.alloc (.cells #[.slice none 0 0, .slice none 0 0] 39) = w11 := ⟨_, rfl⟩
  have hb11 : Below w10.heap.size w10 w11 := by rw [← hw11]; exact below_al w10 _
  have hb911 := hb10.trans (hb11.mono hb10.size)
  have HB11 := Aside0.mk (HB9.out.trans (hb911.mono HB9.out.size))
  have HF0 := HF
  replace HF := Aside0.mk (blk_below HF.out hb911)
  have hf0 : w11.cell? ⟨w3.heap.size, 0, none⟩ = some (.slice none 0 0) := by unfold World.cell?; rw [HF.out]; simp
  have hf1 : w11.cell? ⟨w3.heap.size, 1, none⟩ = some (.slice none 0 0) := by unfold World.cell?; rw [HF.out]; simp
  have hF10 := blk_below HF0.out hb10
  have he0 : w10.cell? ⟨w3.heap.size, 0, none⟩ = some (.slice none 0 0) := by unfold World.cell?; rw [hF10]; simp
  have he1 : w10.cell? ⟨w3.heap.size, 1, none⟩ = some (.slice none 0 0) := by unfold World.cell?; rw [hF10]; simp
  rw [← hw11] at hf0 hf1
  have HW11 := Aside0.mk hw11
  have HB11W := Aside0.mk (HBB.out.trans (HB11.out.mono HBB.out.size))
  have HB12 := HB11W
  have HAW := Aside0.mk (awake_any w11 (HP.out.below HB12.out))
  clear hb10 hb11 hb911 hw9 HD5 hw11 hF10
  go_wp2_with fail
  rw [HW11.out]
  refine HAW.out.mono ?_
  rintro e w13 ⟨rfl, hb13⟩
  have HB13 := Aside0.mk (HB12.out.trans (hb13.mono HB12.out.size))
  clear hb13
  go_wp2
  go_ret
  exact ⟨rfl, HB13.out⟩
set_option maxHeartbeats 16000000 in
set_option maxRecDepth 1000000 in
theorem wrong_5 (A0 : Option Addr) (c0 : Nat) (l0 : List Int) (way n : Int) (w : World) (hp : PW w) (hr0 : Kd.C (Kd.int .u8) w A0 l0.length l0) (hc0 : l0.length ≤ c0) (hl0 : l0.length ≤ 140737488351232) (hp0 : ∀ x ∈ l0, 0 ≤ x ∧ x < 256) (hw0 : 0 ≤ way) (hw1 : way < 256) (hn0 : -9223372036854775808 ≤ n) (hn1 : n ≤ 9223372036854775807) (hq : way % 7 = 5) :
    Calls Tryd.prog 8 #[.slice A0 l0.length c0, .int .u8 way, .int .i64 n] w fun e w' => e = .returned (.bool true) ∧ Below w.heap.size w w' := by
  have HCO := Aside0.mk (coded_any A0 c0 l0 w hp hr0 hc0 hl0 hp0)
  have HP := Aside0.mk hp
  have HDP := Aside0.mk (And.intro (dataG_pos l0) (dataG_le l0))
  clear hr0 hp0 hp
  obtain ⟨L, hL⟩ : ∃ L, L = (dataG l0).length + 4 := ⟨_, rfl⟩
  have hL5 : 5 ≤ L := by have := HDP.out; omega
  have hL63 : L ≤ 63 := by have := HDP.out; omega
  rw [← hL] at HCO
  clear hL
  go_enter Tryd.func8, Tryd.ntmps8
  go_wp2_with fail
  refine HCO.out.mono ?_
  rintro e w1 ⟨g, cg, rfl, hg, hcg, R, hRl, -, hRc, hRr, hb1⟩
  have HRR := Aside0.mk hRr
  have HRL := Aside0.mk hRl
  have HRC := Aside0.mk hRc
  have HB1 := Aside0.mk hb1
  have HO1 := Aside0.mk (World.ownsRow_lit (base := w1.heap.size) (e := 5) (size := 1) w1 #[] 0 (Nat.le_refl _) (by decide) rfl)
  have HB10 := Aside0.mk ((Below.refl _ w1).alloc (Nat.le_refl _) (.cells #[] 5))
  have hrd := hRr.reads (by rw [ns_length]; omega)
  rw [ns_length, hRl] at hrd
  have HRD1 := Aside0.mk (Kd.C_alloc hrd (.cells #[] 5))
  obtain ⟨X, hX⟩ : ∃ X, X = ns R := ⟨_, rfl⟩
  have HXL := Aside0.mk (show X.length = L by rw [hX, ns_length, hRl])
  rw [← hX] at HRD1
  have HX := Aside0.mk hX
  clear hX hg hRl hRc hRr hb1 hrd HCO
  go_wp2_with (first | (at_builtin; refine print_append_row (w0 := w1) w1.heap.size rfl _ _ 22 5 .u8 1 rfl Tryd.underlying22 info_u8 (by decide) _ [] X (some ⟨g, 0, none⟩) L cg rfl rfl HO1.out (Kd.reads_of_C HRD1.out) HB10.out HB10.out.size (by simp <;> omega) ?_; intro v2 w2 hown hB2 hg2 hat; have hown' : Own .u8 5 w2 w1.heap.size v2 X := (by simpa [Own] using hown); have hL0 : 0 < L := (by omega); obtain ⟨gb, cb, rfl, hcb, hgb, hrowb⟩ := own_crow' hown' HXL.out hL0; have HRB := Aside0.mk hrowb; have HGB := Aside0.mk hgb; have HB2 := Aside0.mk hB2;  clear hown hown' hB2 hg2 hat hrowb hgb hL0))
  obtain ⟨wB, hwB⟩ : ∃ wB, w2.alloc (.cells #[.int .i64 1, .int .i64 2, .int .i64 1] 3) = wB := ⟨_, rfl⟩
  have hbB : Below w2.heap.size w2 wB := by rw [← hwB]; exact below_al w2 _
  have HBB := Aside0.mk ((HB1.out.trans (HB2.out.mono HB1.out.size)).trans (hbB.mono (Nat.le_trans HB1.out.size HB2.out.size)))
  have HWB : Aside0 (Kd.C (Kd.int .u8) wB (some ⟨g, 0, none⟩) L (ns R)) := ⟨by
    have h := ((HRR.out.below HB2.out).below hbB).reads (by rw [ns_length, HRL.out]; omega)
    rwa [ns_length, HRL.out] at h⟩
  have HRDB : Aside0 (∀ W', Below wB.heap.size wB W' → Kd.C (Kd.int .u8) W' (some ⟨gb, 0, none⟩) R.length (ns R)) := ⟨fun W' hb => by
    have h := ((HRB.out.below hbB).below hb).reads (by rw [HXL.out]; omega)
    rw [HXL.out, ← HRL.out, HX.out] at h
    exact h⟩
  have HSYN : Aside0 (∀ W', Below wB.heap.size wB W' → Aside0 (Calls Tryd.prog 15 #[.slice (some ⟨gb, 0, none⟩) L cb] W' fun e w' => ∃ gs, e = .returned (.tuple #[.slice (some ⟨gs, 0, none⟩) 4 4, .int .i64 0]) ∧ Below W'.heap.size W' w')) := ⟨fun W' hb => ⟨by
    have h := Synd_ok (some ⟨gb, 0, none⟩) cb R W' (HP.out.below (HBB.out.trans (hb.mono HBB.out.size))) (HRDB.out W' hb) (by rw [HRL.out]; exact hcb) (by rw [HRL.out]; omega) (by rw [HRL.out]; omega)
    rw [HRL.out] at h
    refine h.mono ?_
    rintro e w' ⟨gs, _, rfl, _, hb⟩
    exact ⟨gs, rfl, hb⟩⟩⟩
  have HDEC : Aside0 (Calls Tryd.prog 23 #[.slice (some ⟨gb, 0, none⟩) L cb, .slice (some ⟨w2.heap.size, 0, none⟩) 3 3] wB fun e w' => e = .returned (.tuple #[.agg #[.slice none 0 0, .slice none 0 0], .int .i64 2]) ∧ Below wB.heap.size wB w') := ⟨by
    have hno : ¬ ∀ i, i < [1, 2, 1].length → okAt R.length [1, 2, 1] i := by
      intro h
      have h1 := h 2 (by simp)
      unfold okAt at h1
      simp at h1
    have h := Dec_places (some ⟨gb, 0, none⟩) cb R (some ⟨w2.heap.size, 0, none⟩) [1, 2, 1] 3 wB (HRDB.out _ (Below.refl _ _)) (by rw [HRL.out]; exact hcb) (by rw [HRL.out]; omega) (by rw [HRL.out]; omega) (by rw [← hwB]; exact lit_reads w2 .i64 3 [1, 2, 1] _ rfl 3 rfl (by omega)) (by simp) (by simp) (fun h => absurd h hno)
    rw [HRL.out] at h
    refine Calls.mono (show Calls _ _ #[.slice (some ⟨gb, 0, none⟩) L cb, .slice (some ⟨w2.heap.size, 0, none⟩) 3 3] wB _ from h) ?_
    rintro e w' ⟨m, rfl, hm, hb⟩
    rcases hm with ⟨rfl, _⟩ | ⟨_, hok⟩
    · exact ⟨rfl, hb⟩
    · rw [← HRL.out] at hok
      exact absurd hok hno⟩
  rw [hwB]
  clear hwB hbB
  refine HDEC.out.mono ?_
  rintro e w3 ⟨rfl, hb3⟩
  obtain ⟨w4, hw4⟩ : ∃ w4, w3.alloc (.cells #[.slice none 0 0, .slice none 0 0] 39) = w4 := ⟨_, rfl⟩
  have hb4 : Below w3.heap.size w3 w4 := by rw [← hw4]; exact below_al w3 _
  have HF := Aside0.mk (show w4.heap[w3.heap.size]? = some (.cells #[.slice none 0 0, .slice none 0 0] 39 (0, 0)) by rw [← hw4]; exact heap_alloc_new w3 _)
  have HB4 := Aside0.mk (hb3.trans (hb4.mono hb3.size))
  obtain ⟨w5, hw5⟩ : ∃ w5, w4.alloc (.cells (madeCells #[.int .u8 0] 60) 5) = w5 := ⟨_, rfl⟩
  have hb5 : Below w4.heap.size w4 w5 := by rw [← hw5]; exact below_al w4 _
  have hz4 : w4.heap.size = w3.heap.size + 1 := by rw [← hw4]; simp
  have hmk60 : ∀ W : World, (Instr.makeSlice 22 (.int .i64 60) (.int .i64 60)).run Tryd.prog W = .ok (.slice (some ⟨W.heap.size, 0, none⟩) 60 60) (W.alloc (.cells (madeCells #[.int .u8 0] 60) 5)) :=
    fun W => run_make_row' 22 5 (.int .u8 0) 1 Tryd.underlying22 info_u8 rfl .i64 .i64 60 (by omega) (by omega) W
  have HE1 : Aside0 (Calls Tryd.prog 14 #[.slice (some ⟨w3.heap.size + 1, 0, none⟩) 60 60] w5 fun e w' => e = .returned (.tuple #[.slice none 0 0, .int .i64 2]) ∧ Below w5.heap.size w5 w') := ⟨Encode_bad (some ⟨w3.heap.size + 1, 0, none⟩) 60 (List.replicate 60 0) w5 (by rw [← hz4, ← hw5]; exact (CRow.made (Value.int .u8) (0 : Int) w4 5 60).reads (by decide)) (by decide) (by decide) (by decide)⟩
  have HW4 := Aside0.mk hw4
  have HW5 := Aside0.mk hw5
  clear hb3 hb4 HDEC hw4 hw5 hz4
  go_wp2_with fail
  rw [HW4.out, HW5.out]
  refine HE1.out.mono ?_
  rintro e w6 ⟨rfl, hb6⟩
  have hb46 : Below w4.heap.size w4 w6 := hb5.trans (hb6.mono hb5.size)
  have HB6 := Aside0.mk (HB4.out.trans (hb46.mono HB4.out.size))
  replace HF := Aside0.mk (blk_below HF.out hb46)
  have HE2 : Aside0 (Calls Tryd.prog 14 #[.slice none 0 0] w6 fun e w' => e = .returned (.tuple #[.slice none 0 0, .int .i64 2]) ∧ Below w6.heap.size w6 w') := ⟨Encode_bad none 0 [] w6 (Kd.C_nil _ _) (by decide) (by decide) (by decide)⟩
  clear hb5 hb6 hb46 HE1 hmk60 HW4 HW5
  go_wp2_with fail
  refine HE2.out.mono ?_
  rintro e w7 ⟨rfl, hb7⟩
  have HB7 := Aside0.mk (HB6.out.trans (hb7.mono HB6.out.size))
  replace HF := Aside0.mk (blk_below HF.out hb7)
  have HSY := HSYN.out w7 HB7.out
  clear hb7 HE2 HB6 HB4
  go_wp2_with fail
  refine HSY.out.mono ?_
  rintro e w8 ⟨gs, rfl, hb8⟩
  have HB8 := Aside0.mk (HB7.out.trans (hb8.mono HB7.out.size))
  replace HF := Aside0.mk (blk_below HF.out hb8)
  obtain ⟨w9, hw9⟩ : ∃ w9, w8.alloc (.cells #[.int .i64 0, .int .i64 1, .int .i64 2, .int .i64 3, .int .i64 4] 3) = w9 := ⟨_, rfl⟩
  have hb9 : Below w8.heap.size w8 w9 := by rw [← hw9]; exact below_al w8 _
  have HB9 := Aside0.mk (HB8.out.trans (hb9.mono HB8.out.size))
  replace HF := Aside0.mk (blk_below HF.out hb9)
  have HD5 : Aside0 (Calls Tryd.prog 23 #[.slice (some ⟨g, 0, none⟩) L cg, .slice (some ⟨w8.heap.size, 0, none⟩) 5 5] w9 fun e w' => e = .returned (.tuple #[.agg #[.slice none 0 0, .slice none 0 0], .int .i64 190]) ∧ Below w9.heap.size w9 w') := ⟨by
    have h := Dec_places (some ⟨g, 0, none⟩) cg R (some ⟨w8.heap.size, 0, none⟩) [0, 1, 2, 3, 4] 5 w9 (by rw [HRL.out]; exact Kd.C_below HWB.out HB9.out) (by rw [HRL.out]; exact hcg) (by rw [HRL.out]; omega) (by rw [HRL.out]; omega) (by rw [← hw9]; exact lit_reads w8 .i64 3 [0, 1, 2, 3, 4] _ rfl 5 rfl (by omega)) (by decide) (by decide) (fun _ => by decide)
    rw [HRL.out] at h
    refine Calls.mono (show Calls _ _ #[.slice (some ⟨g, 0, none⟩) L cg, .slice (some ⟨w8.heap.size, 0, none⟩) 5 5] w9 _ from h) ?_
    rintro e w' ⟨m, rfl, hm, hb⟩
    rcases hm with ⟨_, hno⟩ | ⟨rfl, _⟩
    · exact absurd (five_ok hL5) hno
    · exact ⟨rfl, hb⟩⟩
  clear hb8 hb9 HSY HB7 HB8
  go_wp2_with fail
  refine HD5.out.mono ?_
  rintro e w10 ⟨rfl, hb10⟩
  obtain ⟨w11, hw11⟩ : ∃ w11, w10.alloc (.cells #[.slice none 0 0, .slice none 0 0] 39) = w11 := ⟨_, rfl⟩
  have hb11 : Below w10.heap.size w10 w11 := by rw [← hw11]; exact below_al w10 _
  have hb911 := hb10.trans (hb11.mono hb10.size)
  have HB11 := Aside0.mk (HB9.out.trans (hb911.mono HB9.out.size))
  have HF0 := HF
  replace HF := Aside0.mk (blk_below HF.out hb911)
  have hf0 : w11.cell? ⟨w3.heap.size, 0, none⟩ = some (.slice none 0 0) := by unfold World.cell?; rw [HF.out]; simp
  have hf1 : w11.cell? ⟨w3.heap.size, 1, none⟩ = some (.slice none 0 0) := by unfold World.cell?; rw [HF.out]; simp
  have hF10 := blk_below HF0.out hb10
  have he0 : w10.cell? ⟨w3.heap.size, 0, none⟩ = some (.slice none 0 0) := by unfold World.cell?; rw [hF10]; simp
  have he1 : w10.cell? ⟨w3.heap.size, 1, none⟩ = some (.slice none 0 0) := by unfold World.cell?; rw [hF10]; simp
  rw [← hw11] at hf0 hf1
  have HW11 := Aside0.mk hw11
  have HB11W := Aside0.mk (HBB.out.trans (HB11.out.mono HBB.out.size))
  have HB12 := HB11W
  have HAW := Aside0.mk (awake_any w11 (HP.out.below HB12.out))
  clear hb10 hb11 hb911 hw9 HD5 hw11 hF10
  go_wp2_with fail
  rw [HW11.out]
  refine HAW.out.mono ?_
  rintro e w13 ⟨rfl, hb13⟩
  have HB13 := Aside0.mk (HB12.out.trans (hb13.mono HB12.out.size))
  clear hb13
  go_wp2
  go_ret
  exact ⟨rfl, HB13.out⟩
set_option maxHeartbeats 16000000 in
set_option maxRecDepth 1000000 in
theorem wrong_6 (A0 : Option Addr) (c0 : Nat) (l0 : List Int) (way n : Int) (w : World) (hp : PW w) (hr0 : Kd.C (Kd.int .u8) w A0 l0.length l0) (hc0 : l0.length ≤ c0) (hl0 : l0.length ≤ 140737488351232) (hp0 : ∀ x ∈ l0, 0 ≤ x ∧ x < 256) (hw0 : 0 ≤ way) (hw1 : way < 256) (hn0 : -9223372036854775808 ≤ n) (hn1 : n ≤ 9223372036854775807) (hq : way % 7 = 6) :
    Calls Tryd.prog 8 #[.slice A0 l0.length c0, .int .u8 way, .int .i64 n] w fun e w' => e = .returned (.bool true) ∧ Below w.heap.size w w' := by
  have HCO := Aside0.mk (coded_any A0 c0 l0 w hp hr0 hc0 hl0 hp0)
  have HP := Aside0.mk hp
  have HDP := Aside0.mk (And.intro (dataG_pos l0) (dataG_le l0))
  clear hr0 hp0 hp
  obtain ⟨L, hL⟩ : ∃ L, L = (dataG l0).length + 4 := ⟨_, rfl⟩
  have hL5 : 5 ≤ L := by have := HDP.out; omega
  have hL63 : L ≤ 63 := by have := HDP.out; omega
  rw [← hL] at HCO
  clear hL
  go_enter Tryd.func8, Tryd.ntmps8
  go_wp2_with fail
  refine HCO.out.mono ?_
  rintro e w1 ⟨g, cg, rfl, hg, hcg, R, hRl, -, hRc, hRr, hb1⟩
  have HRR := Aside0.mk hRr
  have HRL := Aside0.mk hRl
  have HRC := Aside0.mk hRc
  have HB1 := Aside0.mk hb1
  have HO1 := Aside0.mk (World.ownsRow_lit (base := w1.heap.size) (e := 5) (size := 1) w1 #[] 0 (Nat.le_refl _) (by decide) rfl)
  have HB10 := Aside0.mk ((Below.refl _ w1).alloc (Nat.le_refl _) (.cells #[] 5))
  have hrd := hRr.reads (by rw [ns_length]; omega)
  rw [ns_length, hRl] at hrd
  have HRD1 := Aside0.mk (Kd.C_alloc hrd (.cells #[] 5))
  obtain ⟨X, hX⟩ : ∃ X, X = ns R := ⟨_, rfl⟩
  have HXL := Aside0.mk (show X.length = L by rw [hX, ns_length, hRl])
  rw [← hX] at HRD1
  have HX := Aside0.mk hX
  clear hX hg hRl hRc hRr hb1 hrd HCO
  go_wp2_with (first | (at_builtin; refine print_append_row (w0 := w1) w1.heap.size rfl _ _ 22 5 .u8 1 rfl Tryd.underlying22 info_u8 (by decide) _ [] X (some ⟨g, 0, none⟩) L cg rfl rfl HO1.out (Kd.reads_of_C HRD1.out) HB10.out HB10.out.size (by simp <;> omega) ?_; intro v2 w2 hown hB2 hg2 hat; have hown' : Own .u8 5 w2 w1.heap.size v2 X := (by simpa [Own] using hown); have hL0 : 0 < L := (by omega); obtain ⟨gb, cb, rfl, hcb, hgb, hrowb⟩ := own_crow' hown' HXL.out hL0; have HRB := Aside0.mk hrowb; have HGB := Aside0.mk hgb; have HB2 := Aside0.mk hB2;  clear hown hown' hB2 hg2 hat hrowb hgb hL0))
  have HBB := Aside0.mk (HB1.out.trans (HB2.out.mono HB1.out.size))
  have HWB : Aside0 (Kd.C (Kd.int .u8) w2 (some ⟨g, 0, none⟩) L (ns R)) := ⟨by
    have h := (HRR.out.below HB2.out).reads (by rw [ns_length, HRL.out]; omega)
    rwa [ns_length, HRL.out] at h⟩
  have HLB := Aside0.mk (show ([] : List Int).length = 0 from rfl)
  have HNW := Aside0.mk (noword_len (l := []) (.inl (by decide)))
  have HBAD : Aside0 (Kd.C (Kd.int .u8) w2 none 0 []) := ⟨Kd.C_nil _ _⟩
  have HSYN : Aside0 (∀ W', Below w2.heap.size w2 W' → Aside0 (Calls Tryd.prog 15 #[.slice none 0 0] W' fun e w' => e = .returned (.tuple #[.slice none 0 0, .int .i64 2]) ∧ Below W'.heap.size W' w')) := ⟨fun W' hb => ⟨by
    have h := Synd_bad none 0 [] W' (by rw [HLB.out]; exact Kd.C_below HBAD.out hb) (by rw [HLB.out]; omega) (by rw [HLB.out]; omega) HNW.out
    rw [HLB.out] at h
    exact h⟩⟩
  have HVAL : Aside0 (∀ W', Below w2.heap.size w2 W' → Aside0 (Calls Tryd.prog 16 #[.slice none 0 0] W' fun e w' => e = .returned (.bool false) ∧ Below W'.heap.size W' w')) := ⟨fun W' hb => ⟨by
    have h := Valid_bad none 0 [] W' (by rw [HLB.out]; exact Kd.C_below HBAD.out hb) (by rw [HLB.out]; omega) (by rw [HLB.out]; omega) HNW.out
    rw [HLB.out] at h
    exact h⟩⟩
  have HDEC : Aside0 (Calls Tryd.prog 23 #[.slice none 0 0, .slice none 0 0] w2 fun e w' => e = .returned (.tuple #[.agg #[.slice none 0 0, .slice none 0 0], .int .i64 2]) ∧ Below w2.heap.size w2 w') := ⟨by
    have h := Dec_noword none 0 [] none 0 0 w2 (by rw [HLB.out]; exact HBAD.out) (by rw [HLB.out]; omega) (by rw [HLB.out]; omega) HNW.out
    rw [HLB.out] at h
    exact h⟩
  refine HDEC.out.mono ?_
  rintro e w3 ⟨rfl, hb3⟩
  obtain ⟨w4, hw4⟩ : ∃ w4, w3.alloc (.cells #[.slice none 0 0, .slice none 0 0] 39) = w4 := ⟨_, rfl⟩
  have hb4 : Below w3.heap.size w3 w4 := by rw [← hw4]; exact below_al w3 _
  have HF := Aside0.mk (show w4.heap[w3.heap.size]? = some (.cells #[.slice none 0 0, .slice none 0 0] 39 (0, 0)) by rw [← hw4]; exact heap_alloc_new w3 _)
  have HB4 := Aside0.mk (hb3.trans (hb4.mono hb3.size))
  obtain ⟨w5, hw5⟩ : ∃ w5, w4.alloc (.cells (madeCells #[.int .u8 0] 60) 5) = w5 := ⟨_, rfl⟩
  have hb5 : Below w4.heap.size w4 w5 := by rw [← hw5]; exact below_al w4 _
  have hz4 : w4.heap.size = w3.heap.size + 1 := by rw [← hw4]; simp
  have hmk60 : ∀ W : World, (Instr.makeSlice 22 (.int .i64 60) (.int .i64 60)).run Tryd.prog W = .ok (.slice (some ⟨W.heap.size, 0, none⟩) 60 60) (W.alloc (.cells (madeCells #[.int .u8 0] 60) 5)) :=
    fun W => run_make_row' 22 5 (.int .u8 0) 1 Tryd.underlying22 info_u8 rfl .i64 .i64 60 (by omega) (by omega) W
  have HE1 : Aside0 (Calls Tryd.prog 14 #[.slice (some ⟨w3.heap.size + 1, 0, none⟩) 60 60] w5 fun e w' => e = .returned (.tuple #[.slice none 0 0, .int .i64 2]) ∧ Below w5.heap.size w5 w') := ⟨Encode_bad (some ⟨w3.heap.size + 1, 0, none⟩) 60 (List.replicate 60 0) w5 (by rw [← hz4, ← hw5]; exact (CRow.made (Value.int .u8) (0 : Int) w4 5 60).reads (by decide)) (by decide) (by decide) (by decide)⟩
  have HW4 := Aside0.mk hw4
  have HW5 := Aside0.mk hw5
  clear hb3 hb4 HDEC hw4 hw5 hz4
  go_wp2_with fail
  rw [HW4.out, HW5.out]
  refine HE1.out.mono ?_
  rintro e w6 ⟨rfl, hb6⟩
  have hb46 : Below w4.heap.size w4 w6 := hb5.trans (hb6.mono hb5.size)
  have HB6 := Aside0.mk (HB4.out.trans (hb46.mono HB4.out.size))
  replace HF := Aside0.mk (blk_below HF.out hb46)
  have HE2 : Aside0 (Calls Tryd.prog 14 #[.slice none 0 0] w6 fun e w' => e = .returned (.tuple #[.slice none 0 0, .int .i64 2]) ∧ Below w6.heap.size w6 w') := ⟨Encode_bad none 0 [] w6 (Kd.C_nil _ _) (by decide) (by decide) (by decide)⟩
  clear hb5 hb6 hb46 HE1 hmk60 HW4 HW5
  go_wp2_with fail
  refine HE2.out.mono ?_
  rintro e w7 ⟨rfl, hb7⟩
  have HB7 := Aside0.mk (HB6.out.trans (hb7.mono HB6.out.size))
  replace HF := Aside0.mk (blk_below HF.out hb7)
  have HSY := HSYN.out w7 HB7.out
  clear hb7 HE2 HB6 HB4
  go_wp2_with fail
  refine HSY.out.mono ?_
  rintro e w8 ⟨rfl, hb8⟩
  have HB8 := Aside0.mk (HB7.out.trans (hb8.mono HB7.out.size))
  replace HF := Aside0.mk (blk_below HF.out hb8)
  obtain ⟨w9, hw9⟩ : ∃ w9, w8.alloc (.cells #[.int .i64 0, .int .i64 1, .int .i64 2, .int .i64 3, .int .i64 4] 3) = w9 := ⟨_, rfl⟩
  have hb9 : Below w8.heap.size w8 w9 := by rw [← hw9]; exact below_al w8 _
  have HB9 := Aside0.mk (HB8.out.trans (hb9.mono HB8.out.size))
  replace HF := Aside0.mk (blk_below HF.out hb9)
  have HD5 : Aside0 (Calls Tryd.prog 23 #[.slice (some ⟨g, 0, none⟩) L cg, .slice (some ⟨w8.heap.size, 0, none⟩) 5 5] w9 fun e w' => e = .returned (.tuple #[.agg #[.slice none 0 0, .slice none 0 0], .int .i64 190]) ∧ Below w9.heap.size w9 w') := ⟨by
    have h := Dec_places (some ⟨g, 0, none⟩) cg R (some ⟨w8.heap.size, 0, none⟩) [0, 1, 2, 3, 4] 5 w9 (by rw [HRL.out]; exact Kd.C_below HWB.out HB9.out) (by rw [HRL.out]; exact hcg) (by rw [HRL.out]; omega) (by rw [HRL.out]; omega) (by rw [← hw9]; exact lit_reads w8 .i64 3 [0, 1, 2, 3, 4] _ rfl 5 rfl (by omega)) (by decide) (by decide) (fun _ => by decide)
    rw [HRL.out] at h
    refine Calls.mono (show Calls _ _ #[.slice (some ⟨g, 0, none⟩) L cg, .slice (some ⟨w8.heap.size, 0, none⟩) 5 5] w9 _ from h) ?_
    rintro e w' ⟨m, rfl, hm, hb⟩
    rcases hm with ⟨_, hno⟩ | ⟨rfl, _⟩
    · exact absurd (five_ok hL5) hno
    · exact ⟨rfl, hb⟩⟩
  clear hb8 hb9 HSY HB7 HB8
  go_wp2_with fail
  refine HD5.out.mono ?_
  rintro e w10 ⟨rfl, hb10⟩
  obtain ⟨w11, hw11⟩ : ∃ w11, w10.alloc (.cells #[.slice none 0 0, .slice none 0 0] 39) = w11 := ⟨_, rfl⟩
  have hb11 : Below w10.heap.size w10 w11 := by rw [← hw11]; exact below_al w10 _
  have hb911 := hb10.trans (hb11.mono hb10.size)
  have HB11 := Aside0.mk (HB9.out.trans (hb911.mono HB9.out.size))
  have HF0 := HF
  replace HF := Aside0.mk (blk_below HF.out hb911)
  have hf0 : w11.cell? ⟨w3.heap.size, 0, none⟩ = some (.slice none 0 0) := by unfold World.cell?; rw [HF.out]; simp
  have hf1 : w11.cell? ⟨w3.heap.size, 1, none⟩ = some (.slice none 0 0) := by unfold World.cell?; rw [HF.out]; simp
  have hF10 := blk_below HF0.out hb10
  have he0 : w10.cell? ⟨w3.heap.size, 0, none⟩ = some (.slice none 0 0) := by unfold World.cell?; rw [hF10]; simp
  have he1 : w10.cell? ⟨w3.heap.size, 1, none⟩ = some (.slice none 0 0) := by unfold World.cell?; rw [hF10]; simp
  rw [← hw11] at hf0 hf1
  have HW11 := Aside0.mk hw11
  have HB11W := Aside0.mk (HBB.out.trans (HB11.out.mono HBB.out.size))
  have HVA := HVAL.out w11 HB11.out
  clear hb10 hb11 hb911 hw9 HD5 hw11 hF10
  go_wp2_with fail
  rw [HW11.out]
  refine HVA.out.mono ?_
  rintro e w12 ⟨rfl, hb12⟩
  have HB12 := Aside0.mk (HB11W.out.trans (hb12.mono HB11W.out.size))
  have HAW := Aside0.mk (awake_any w12 (HP.out.below HB12.out))
  clear hb12 HVA
  go_wp2_with fail
  refine HAW.out.mono ?_
  rintro e w13 ⟨rfl, hb13⟩
  have HB13 := Aside0.mk (HB12.out.trans (hb13.mono HB12.out.size))
  clear hb13
  go_wp2
  go_ret
  exact ⟨rfl, HB13.out⟩
theorem wrong_any (A0 : Option Addr) (c0 : Nat) (l0 : List Int) (way n : Int) (w : World) (hp : PW w) (hr0 : Kd.C (Kd.int .u8) w A0 l0.length l0) (hc0 : l0.length ≤ c0) (hl0 : l0.length ≤ 140737488351232) (hp0 : ∀ x ∈ l0, 0 ≤ x ∧ x < 256) (hw0 : 0 ≤ way) (hw1 : way < 256) (hn0 : -9223372036854775808 ≤ n) (hn1 : n ≤ 9223372036854775807) :
    Calls Tryd.prog 8 #[.slice A0 l0.length c0, .int .u8 way, .int .i64 n] w fun e w' => e = .returned (.bool true) ∧ Below w.heap.size w w' := by
  have h : way % 7 = 0 ∨ way % 7 = 1 ∨ way % 7 = 2 ∨ way % 7 = 3 ∨ way % 7 = 4 ∨ way % 7 = 5 ∨ way % 7 = 6 := by omega
  rcases h with h | h | h | h | h | h | h
  · exact wrong_0 A0 c0 l0 way n w hp hr0 hc0 hl0 hp0 hw0 hw1 hn0 hn1 h
  · exact wrong_1 A0 c0 l0 way n w hp hr0 hc0 hl0 hp0 hw0 hw1 hn0 hn1 h
  · exact wrong_2 A0 c0 l0 way n w hp hr0 hc0 hl0 hp0 hw0 hw1 hn0 hn1 h
  · exact wrong_3 A0 c0 l0 way n w hp hr0 hc0 hl0 hp0 hw0 hw1 hn0 hn1 h
  · exact wrong_4 A0 c0 l0 way n w hp hr0 hc0 hl0 hp0 hw0 hw1 hn0 hn1 h
  · exact wrong_5 A0 c0 l0 way n w hp hr0 hc0 hl0 hp0 hw0 hw1 hn0 hn1 h
  · exact wrong_6 A0 c0 l0 way n w hp hr0 hc0 hl0 hp0 hw0 hw1 hn0 hn1 h
end Go.Proofs.YtlifghomejdhnaaDoor
