/- The law SolomonApart: two code words of different data differ at no less than five places. -/
import Derived.Test.YtlifghomejdhnaaDoorRd
import Derived.Test.YtlifghomejdhnaaDoorSame
set_option linter.unusedVariables false
set_option linter.unusedSimpArgs false
namespace Go.Proofs.YtlifghomejdhnaaDoor
open Go.RowKit Go.Shelf Go.Proofs.YtlifghomejdhnaaDoorW.PrintWords Go.Proofs.YtlifghomejdhnaaDoorW.PrintLast Go.Proofs.YtlifghomejdhnaaDoorW.PrintMore Go.Proofs.YtlifghomejdhnaaDoor.Q Go.Proofs.YtlifghomejdhnaaDoor.Gf

theorem CRow.take {k : IntKind} {W : World} {g n : Nat} {L : List Int} (h : CRow (Value.int k) 0 W g L) (hn : n ≤ L.length) : CRow (Value.int k) 0 W g (L.take n) := by
  refine ⟨h.lt, fun j hj => ?_, fun j hj => ?_⟩
  · rw [List.length_take] at hj
    have := h.cell j (by omega)
    rwa [show (L.take n).getD j 0 = L.getD j 0 by rw [List.getD_eq_getElem?_getD, List.getD_eq_getElem?_getD, List.getElem?_take, if_pos (by omega)]]
  · rw [List.length_take] at hj
    exact h.free j (by omega)
theorem mdG_of (O : List G) : mdG (ns O) = O := by
  unfold mdG ns
  rw [List.map_map]
  conv => rhs; rw [← List.map_id O]
  apply List.map_congr_left
  intro x _
  refine G.ext ?_
  show (gOf (((x.n : Nat) : Int) % 64).toNat).n = x.n
  have := x.lt
  rw [gOf_n _ (by omega)]
  omega
theorem dataG_of (O : List G) (h0 : 0 < O.length) (h : O.length ≤ 59) : dataG (ns O) = O := by
  unfold dataG
  rw [if_neg (by rw [ns_length]; omega), List.take_of_length_le (by rw [ns_length]; exact h), mdG_of]
/-- The places below i at which two words differ. -/
def dif (a b : List G) (i : Nat) : List Nat := (List.range i).filter fun p => decide (a.getD p 0 ≠ b.getD p 0)
theorem dif_succ (a b : List G) (i : Nat) : (dif a b (i + 1)).length = (dif a b i).length + (if a.getD i 0 = b.getD i 0 then 0 else 1) := by
  unfold dif
  rw [List.range_succ, List.filter_append, List.length_append]
  by_cases h : a.getD i 0 = b.getD i 0
  · rw [if_pos h, List.filter_cons, decide_eq_false (fun hc => hc h)]
    rfl
  · rw [if_neg h, List.filter_cons, decide_eq_true h]
    rfl
theorem dif_le (a b : List G) (i : Nat) : (dif a b i).length ≤ i := by
  unfold dif
  have := List.length_filter_le (fun p => decide (a.getD p 0 ≠ b.getD p 0)) (List.range i)
  rwa [List.length_range] at this
theorem dif_few {a b : List G} (hN : a.length ≤ 63) (hl : b.length = a.length) (ha : Code a) (hb : Code b) (h : (dif a b a.length).length ≤ 4) : b = a :=
  code_apart hN hl ha hb (P := dif a b a.length) (fun p hp => by simp [dif] at hp; exact hp.1) (List.Pairwise.filter _ List.nodup_range) h fun q hq hm => Classical.byContradiction fun hc => hm (by simp [dif]; exact ⟨hq, fun e => hc e.symm⟩)
theorem dif_self (a : List G) (i : Nat) : dif a a i = [] := by
  unfold dif
  rw [List.filter_eq_nil_iff]
  simp
/-- Words of equal data differ at the last four places at most. -/
theorem same_data {a b : List G} {D : Nat} (hD : D + 4 ≤ 63) (hla : a.length = D + 4) (hlb : b.length = D + 4) (ha : Code a) (hb : Code b) (h : a.take D = b.take D) : b = a := by
  refine code_apart (P := (List.range 4).map fun i => D + i) (by omega) (by omega) ha hb (fun p hp => ?_) ?_ (by simp) fun q hq hm => ?_
  · obtain ⟨i, hi, rfl⟩ := List.mem_map.1 hp
    rw [List.mem_range] at hi
    omega
  · exact List.Pairwise.map _ (fun x y h e => h (by omega)) List.nodup_range
  · have hq2 : q < D := Classical.byContradiction fun hc => hm (List.mem_map.2 ⟨q - D, by rw [List.mem_range]; omega, by omega⟩)
    have e1 : (a.take D).getD q 0 = a.getD q 0 := by rw [List.getD_eq_getElem?_getD, List.getD_eq_getElem?_getD, List.getElem?_take, if_pos hq2]
    have e2 : (b.take D).getD q 0 = b.getD q 0 := by rw [List.getD_eq_getElem?_getD, List.getD_eq_getElem?_getD, List.getElem?_take, if_pos hq2]
    rw [← e1, ← e2, h]
theorem ns_inj {a b : List G} (h : ns a = ns b) : a = b := by
  have := congrArg mdG h
  rwa [mdG_of, mdG_of] at this
attribute [local go_sem] max2_int min2_int max_two min_two max_three min_three
set_option maxHeartbeats 16000000 in
set_option maxRecDepth 1000000 in
theorem apart_any (A0 : Option Addr) (c0 : Nat) (l0 : List Int) (A1 : Option Addr) (c1 : Nat) (z : List (Int × Int × Bool)) (w : World) (hp : PW w) (hr0 : Kd.C (Kd.int .u8) w A0 l0.length l0) (hc0 : l0.length ≤ c0) (hl0 : l0.length ≤ 140737488351232) (hp0 : ∀ x ∈ l0, 0 ≤ x ∧ x < 256) (hr1 : kNz.C w A1 z.length z) (hc1 : z.length ≤ c1) (hz : ∀ x ∈ z, okNz x) :
    Calls Tryd.prog 3 #[.slice A0 l0.length c0, .slice A1 z.length c1] w fun e w' => e = .returned (.bool true) ∧ Below w.heap.size w w' := by
  obtain ⟨q, hq⟩ : ∃ q, min z.length 3 = q := ⟨_, rfl⟩
  have hqq : (if (3 : Int) < (z.length : Int) then (3 : Int) else (z.length : Int)) = (q : Int) := by split <;> omega
  have hql : q ≤ z.length := by omega
  have hq3 : q ≤ 3 := by omega
  have hqc : q ≤ c1 := by omega
  have htl : (z.take q).length = q := by rw [List.length_take]; omega
  have HRD := Aside0.mk (fun (g0 cg0 : Nat) (R : List G) (W : World) (hb : Below w.heap.size w W) => read_any g0 cg0 R A1 c1 (z.take q) W)
  have HN := Aside0.mk (fun (W : World) (hb : Below w.heap.size w W) => (by rw [htl]; exact nz_take (Kd.C_below hr1 hb) hql : kNz.C W A1 (z.take q).length (z.take q)))
  have HZ := Aside0.mk (fun x (hx : x ∈ z.take q) => hz x (List.mem_of_mem_take hx))
  have HTL := Aside0.mk htl
  have HCO := Aside0.mk (coded_any A0 c0 l0 w hp hr0 hc0 hl0 hp0)
  have HP := Aside0.mk hp
  have hdp := dataG_pos l0
  have hdl := dataG_le l0
  generalize dataG l0 = D0 at HCO hdp hdl
  obtain ⟨D, hD⟩ : ∃ D, D = D0.length := ⟨_, rfl⟩
  rw [← hD] at HCO hdp hdl
  obtain ⟨L, hL⟩ : ∃ L, L = D + 4 := ⟨_, rfl⟩
  rw [← hL] at HCO
  have hLD : (L : Int) - 4 = (D : Int) := by omega
  have hL63 : L ≤ 63 := by omega
  have hDL : D ≤ L := by omega
  have HLD := Aside0.mk hL
  clear hr0 hp0 hp hr1 hz htl hL hq hD
  go_enter Tryd.func3, Tryd.ntmps3
  go_wp2_with fail
  refine HCO.out.mono ?_
  rintro e w1 ⟨g0, cg0, rfl, hg, hcg, R, hRl, -, hRc, hRr, hb1⟩
  obtain ⟨X, hX⟩ : ∃ X, X = R.take D := ⟨_, rfl⟩
  have hXl : X.length = D := by rw [hX, List.length_take]; omega
  have hXr : CRow (Value.int .u8) 0 w1 g0 (ns X) := by
    have := hRr.take (n := D) (by rw [ns_length, hRl]; exact hDL)
    rwa [ns_take, ← hX] at this
  have hDc : D ≤ cg0 := by omega
  have hrd := HRD.out g0 cg0 X w1 hb1 hXr (by rw [hXl]; exact hDc) (by rw [hXl]; omega) (by rw [hXl]; omega) (HN.out w1 hb1) (by rw [HTL.out]; exact hqc) HZ.out (by rw [HTL.out]; omega)
  rw [hXl, HTL.out] at hrd
  have HRE := Aside0.mk hrd
  have HRR := Aside0.mk hRr
  have HXR := Aside0.mk hXr
  have HXX := Aside0.mk hX
  have HXL := Aside0.mk hXl
  have HRL := Aside0.mk hRl
  have HRC := Aside0.mk hRc
  have HB1 := Aside0.mk hb1
  clear hrd hg hRl hRc hRr hb1 hXr hX hXl HCO HRD HN
  go_wp2_with fail
  refine HRE.out.mono ?_
  rintro e w2 ⟨go, cgo, AE, cE, AC, cC, O, E, rfl, hgo, hcgo, hOl, hEq, hcE, hcC, hEd, hEb, hOr, hEr, hCr, hb2⟩
  have hpr := (HP.out.below HB1.out).below hb2
  have hOr2 := hOr.reads (by rw [ns_length, hOl]; omega)
  have HC2 := coded_any (some ⟨go, 0, none⟩) cgo (ns O) w2 hpr hOr2 (by rw [ns_length, hOl]; exact hcgo) (by rw [ns_length, hOl]; omega) (fun x hx => by
    obtain ⟨y, _, rfl⟩ := List.mem_map.1 hx
    have := y.lt
    omega)
  rw [dataG_of O (by omega) (by omega), ns_length, hOl, ← HLD.out] at HC2
  replace HC2 := Aside0.mk HC2
  have HB2 := Aside0.mk (HB1.out.trans (hb2.mono HB1.out.size))
  have HRR2 := Aside0.mk (HRR.out.below hb2)
  have HXR2 := Aside0.mk (HXR.out.below hb2)
  have HOL := Aside0.mk hOl
  have HOR := Aside0.mk hOr
  clear hpr hOr2 hgo hOl hEq hcE hcC hEd hEb hOr hEr hCr hb2 HRE
  go_wp2_with fail
  refine HC2.out.mono ?_
  rintro e w3 ⟨g1, cg1, rfl, hg1, hcg1, V, hVl, hVt, hVc, hVr, hb3⟩
  have HRR3 := Aside0.mk (HRR2.out.below hb3)
  have HXR3 := Aside0.mk (HXR2.out.below hb3)
  have HOR3 := Aside0.mk (HOR.out.below hb3)
  have HVR := Aside0.mk hVr
  have HVL := Aside0.mk hVl
  have HVT := Aside0.mk hVt
  have HVC := Aside0.mk hVc
  have HB3 := Aside0.mk (HB2.out.trans (hb3.mono HB2.out.size))
  clear hg1 hVl hVt hVc hVr hb3 HC2
  go_wp2_with fail
  go_loopw [13, 47] (fun vn i wz => ∃ k : Nat, k ≤ L ∧ i = .int .i64 k ∧ vn = .int .i64 ((dif R V k).length : Nat) ∧ Below w3.heap.size w3 wz) (fun _ i _ => L - (intOf i).toNat)
  case atStart => exact ⟨0, Nat.zero_le _, rfl, rfl, Below.refl _ _⟩
  case round =>
    obtain ⟨i, hi, rfl, rfl, hb⟩ := hrel
    by_cases hiL : i < L
    · have hc1 := (HRR3.out.below hb.drew).cell i (by rw [ns_length, HRL.out]; exact hiL)
      have hc2' := (HVR.out.below hb.drew).cell i (by rw [ns_length, HVL.out]; exact hiL)
      rw [ns_at] at hc1 hc2'
      have HDS := Aside0.mk (dif_succ R V i)
      have hdl := dif_le R V i
      have hbp : (0 : Int) ≤ (i : Int) ∧ (i : Int) < (L : Int) := by omega
      have HBK := Aside0.mk hb.drew
      clear hb
      by_cases heq : R.getD i 0 = V.getD i 0
      · rw [if_pos heq] at HDS
        have hne : ((((R.getD i 0).n : Nat) : Int) == (((V.getD i 0).n : Nat) : Int)) = true := by rw [heq]; simp
        clear heq
        generalize R.getD i 0 = x at hc1 hne
        generalize V.getD i 0 = y at hc2' hne
        go_wp2_with fail
        refine start_ (n := 9) (S := fun w' => w'.cell? ⟨g0, i, none⟩ = some (.int .u8 (x.n : Nat)) ∧ w'.cell? ⟨g1, i, none⟩ = some (.int .u8 (y.n : Nat))) (ds := []) #[false, false, false, false, false, false, false, false, false] (by kernel_rfl) rfl rfl ⟨hc1, hc2'⟩ (fun hHeld => ?_)
        refine pure_ (i := 0) (N := some 50) (v := ?_) (a' := ?_) #[true, false, false, false, false, false, false, false, false] rfl rfl (by kernel_rfl) (fun _ _ _ h => h) (Or.inl ⟨by rfl, ?_⟩) ?_ ?_
        rotate_left
        · intro w'
          go_simp
          with_reducible rfl
        rotate_left
        · simp only [Act.put, List.setIfInBounds_toArray, List.set_cons_zero, List.set_cons_succ, i64_w, i32_w]
          rfl
        refine pure_ (i := 1) (N := some 51) (v := ?_) (a' := ?_) #[true, true, false, false, false, false, false, false, false] rfl rfl (by kernel_rfl) (fun _ _ _ h => h) (Or.inl ⟨by rfl, ?_⟩) ?_ ?_
        rotate_left
        · intro w'
          go_simp
          with_reducible rfl
        rotate_left
        · simp only [Act.put, List.setIfInBounds_toArray, List.set_cons_zero, List.set_cons_succ, i64_w, i32_w]
          rfl
        refine pure_ (i := 2) (N := some 52) (v := ?_) (a' := ?_) #[true, true, true, false, false, false, false, false, false] rfl rfl (by kernel_rfl) (fun _ _ _ h => h) (Or.inl ⟨by rfl, ?_⟩) ?_ ?_
        rotate_left
        · intro w'
          go_simp
          with_reducible rfl
        rotate_left
        · simp only [Act.put, List.setIfInBounds_toArray, List.set_cons_zero, List.set_cons_succ, i64_w, i32_w]
          rfl
        refine pure_ (i := 4) (N := some 54) (v := ?_) (a' := ?_) #[true, true, true, false, true, false, false, false, false] rfl rfl (by kernel_rfl) (fun _ _ _ h => h) (Or.inl ⟨by rfl, ?_⟩) ?_ ?_
        rotate_left
        · intro w'
          go_simp
          with_reducible rfl
        rotate_left
        · simp only [Act.put, List.setIfInBounds_toArray, List.set_cons_zero, List.set_cons_succ, i64_w, i32_w]
          rfl
        refine pure_ (i := 5) (N := some 55) (v := ?_) (a' := ?_) #[true, true, true, false, true, true, false, false, false] rfl rfl (by kernel_rfl) (fun _ _ _ h => h) (Or.inl ⟨by rfl, ?_⟩) ?_ ?_
        rotate_left
        · intro w'
          go_simp
          with_reducible rfl
        rotate_left
        · simp only [Act.put, List.setIfInBounds_toArray, List.set_cons_zero, List.set_cons_succ, i64_w, i32_w]
          rfl
        refine pure_ (i := 6) (N := some 56) (v := ?_) (a' := ?_) #[true, true, true, false, true, true, true, false, false] rfl rfl (by kernel_rfl) (fun _ _ _ h => h) (Or.inl ⟨by rfl, ?_⟩) ?_ ?_
        rotate_left
        · intro w'
          go_simp
          with_reducible rfl
        rotate_left
        · simp only [Act.put, List.setIfInBounds_toArray, List.set_cons_zero, List.set_cons_succ, i64_w, i32_w]
          rfl
        refine take_ (i := 3) (N := some 53) (v := ?_) (a' := ?_) #[true, true, true, true, true, true, true, false, false] rfl rfl (by kernel_rfl) (fun _ _ _ h => h) (Or.inl ⟨by rfl, ?_⟩) hHeld ?_ ?_
        rotate_left
        · rintro w' ⟨s0, s1⟩
          go_simp
          with_reducible rfl
        rotate_left
        · simp only [Act.put, List.setIfInBounds_toArray, List.set_cons_zero, List.set_cons_succ, i64_w, i32_w]
          rfl
        refine take_ (i := 7) (N := some 57) (v := ?_) (a' := ?_) #[true, true, true, true, true, true, true, true, false] rfl rfl (by kernel_rfl) (fun _ _ _ h => h) (Or.inl ⟨by rfl, ?_⟩) hHeld ?_ ?_
        rotate_left
        · rintro w' ⟨s0, s1⟩
          go_simp
          with_reducible rfl
        rotate_left
        · simp only [Act.put, List.setIfInBounds_toArray, List.set_cons_zero, List.set_cons_succ, i64_w, i32_w]
          rfl
        refine pure_ (i := 8) (N := some 58) (v := ?_) (a' := ?_) #[true, true, true, true, true, true, true, true, true] rfl rfl (by kernel_rfl) (fun _ _ _ h => h) (Or.inl ⟨by rfl, ?_⟩) ?_ ?_
        rotate_left
        · intro w'
          go_simp
          with_reducible rfl
        rotate_left
        · simp only [Act.put, List.setIfInBounds_toArray, List.set_cons_zero, List.set_cons_succ, i64_w, i32_w]
          rfl
        refine done_ (by kernel_rfl) ?_
        go_wp2
        go_roundw
        case rel => exact ⟨i + 1, by omega, by go_num, by rw [HDS.out]; rfl, HBK.out⟩
        case measure => simp [intOf]; omega
      · rw [if_neg heq] at HDS
        have hne : ((((R.getD i 0).n : Nat) : Int) == (((V.getD i 0).n : Nat) : Int)) = false := by
          rw [beq_eq_false_iff_ne]
          intro e
          exact heq (G.ext (by omega))
        clear heq
        generalize R.getD i 0 = x at hc1 hne
        generalize V.getD i 0 = y at hc2' hne
        generalize (dif R V i).length = dn at HDS hdl ⊢
        go_wp2_with fail
        refine start_ (n := 9) (S := fun w' => w'.cell? ⟨g0, i, none⟩ = some (.int .u8 (x.n : Nat)) ∧ w'.cell? ⟨g1, i, none⟩ = some (.int .u8 (y.n : Nat))) (ds := []) #[false, false, false, false, false, false, false, false, false] (by kernel_rfl) rfl rfl ⟨hc1, hc2'⟩ (fun hHeld => ?_)
        refine pure_ (i := 0) (N := some 50) (v := ?_) (a' := ?_) #[true, false, false, false, false, false, false, false, false] rfl rfl (by kernel_rfl) (fun _ _ _ h => h) (Or.inl ⟨by rfl, ?_⟩) ?_ ?_
        rotate_left
        · intro w'
          go_simp
          with_reducible rfl
        rotate_left
        · simp only [Act.put, List.setIfInBounds_toArray, List.set_cons_zero, List.set_cons_succ, i64_w, i32_w]
          rfl
        refine pure_ (i := 1) (N := some 51) (v := ?_) (a' := ?_) #[true, true, false, false, false, false, false, false, false] rfl rfl (by kernel_rfl) (fun _ _ _ h => h) (Or.inl ⟨by rfl, ?_⟩) ?_ ?_
        rotate_left
        · intro w'
          go_simp
          with_reducible rfl
        rotate_left
        · simp only [Act.put, List.setIfInBounds_toArray, List.set_cons_zero, List.set_cons_succ, i64_w, i32_w]
          rfl
        refine pure_ (i := 2) (N := some 52) (v := ?_) (a' := ?_) #[true, true, true, false, false, false, false, false, false] rfl rfl (by kernel_rfl) (fun _ _ _ h => h) (Or.inl ⟨by rfl, ?_⟩) ?_ ?_
        rotate_left
        · intro w'
          go_simp
          with_reducible rfl
        rotate_left
        · simp only [Act.put, List.setIfInBounds_toArray, List.set_cons_zero, List.set_cons_succ, i64_w, i32_w]
          rfl
        refine pure_ (i := 4) (N := some 54) (v := ?_) (a' := ?_) #[true, true, true, false, true, false, false, false, false] rfl rfl (by kernel_rfl) (fun _ _ _ h => h) (Or.inl ⟨by rfl, ?_⟩) ?_ ?_
        rotate_left
        · intro w'
          go_simp
          with_reducible rfl
        rotate_left
        · simp only [Act.put, List.setIfInBounds_toArray, List.set_cons_zero, List.set_cons_succ, i64_w, i32_w]
          rfl
        refine pure_ (i := 5) (N := some 55) (v := ?_) (a' := ?_) #[true, true, true, false, true, true, false, false, false] rfl rfl (by kernel_rfl) (fun _ _ _ h => h) (Or.inl ⟨by rfl, ?_⟩) ?_ ?_
        rotate_left
        · intro w'
          go_simp
          with_reducible rfl
        rotate_left
        · simp only [Act.put, List.setIfInBounds_toArray, List.set_cons_zero, List.set_cons_succ, i64_w, i32_w]
          rfl
        refine pure_ (i := 6) (N := some 56) (v := ?_) (a' := ?_) #[true, true, true, false, true, true, true, false, false] rfl rfl (by kernel_rfl) (fun _ _ _ h => h) (Or.inl ⟨by rfl, ?_⟩) ?_ ?_
        rotate_left
        · intro w'
          go_simp
          with_reducible rfl
        rotate_left
        · simp only [Act.put, List.setIfInBounds_toArray, List.set_cons_zero, List.set_cons_succ, i64_w, i32_w]
          rfl
        refine take_ (i := 3) (N := some 53) (v := ?_) (a' := ?_) #[true, true, true, true, true, true, true, false, false] rfl rfl (by kernel_rfl) (fun _ _ _ h => h) (Or.inl ⟨by rfl, ?_⟩) hHeld ?_ ?_
        rotate_left
        · rintro w' ⟨s0, s1⟩
          go_simp
          with_reducible rfl
        rotate_left
        · simp only [Act.put, List.setIfInBounds_toArray, List.set_cons_zero, List.set_cons_succ, i64_w, i32_w]
          rfl
        refine take_ (i := 7) (N := some 57) (v := ?_) (a' := ?_) #[true, true, true, true, true, true, true, true, false] rfl rfl (by kernel_rfl) (fun _ _ _ h => h) (Or.inl ⟨by rfl, ?_⟩) hHeld ?_ ?_
        rotate_left
        · rintro w' ⟨s0, s1⟩
          go_simp
          with_reducible rfl
        rotate_left
        · simp only [Act.put, List.setIfInBounds_toArray, List.set_cons_zero, List.set_cons_succ, i64_w, i32_w]
          rfl
        refine pure_ (i := 8) (N := some 58) (v := ?_) (a' := ?_) #[true, true, true, true, true, true, true, true, true] rfl rfl (by kernel_rfl) (fun _ _ _ h => h) (Or.inl ⟨by rfl, ?_⟩) ?_ ?_
        rotate_left
        · intro w'
          go_simp
          with_reducible rfl
        rotate_left
        · simp only [Act.put, List.setIfInBounds_toArray, List.set_cons_zero, List.set_cons_succ, i64_w, i32_w]
          rfl
        refine done_ (by kernel_rfl) ?_
        go_wp2
        go_roundw
        case rel => exact ⟨i + 1, by omega, by go_num, by rw [HDS.out]; go_num, HBK.out⟩
        case measure => simp [intOf]; omega
    · have hkn : ¬ ((i : Int) < (L : Int)) := by omega
      have hiL2 : i = L := by omega
      have hRL2 : R.length = L := HRL.out
      have hVL2 : V.length = R.length := by rw [HVL.out, HRL.out]
      have hpx := HP.out.below HB3.out
      have HSB := SameB_any (some ⟨g0, 0, none⟩) cg0 (ns X) (some ⟨go, 0, none⟩) cgo (ns O) D D wr (by rw [ns_length, HXL.out]) (by rw [ns_length, HOL.out]) (by omega) (by have := (HXR3.out.below hb).reads (by rw [ns_length, HXL.out]; omega); rwa [ns_length, HXL.out] at this) hDc (by have := (HOR3.out.below hb).reads (by rw [ns_length, HOL.out]; omega); rwa [ns_length, HOL.out] at this) hcgo
      have hVT : V.take D = O := HVT.out
      have HBZ := Aside0.mk (HB3.out.trans (hb.mono HB3.out.size))
      have HAW := Aside0.mk (fun (W : World) (hb : Below wr.heap.size wr W) => awake_any W (HP.out.below (HBZ.out.trans (hb.mono HBZ.out.size))))
      by_cases hRV : V = R
      · have hXO : ns X = ns O := by rw [HXX.out, ← hVT, hRV]
        rw [decide_eq_true hXO] at HSB
        have hn0 : (dif R V i).length = 0 := by rw [hRV, dif_self]; rfl
        rw [hn0]
        replace HSB := Aside0.mk HSB
        clear hiL2 hRL2 hVL2 hpx hVT hXO hRV hn0 hb
        go_wp2_with fail
        refine HSB.out.mono ?_
        rintro e w4 ⟨rfl, hb4⟩
        have HB4 := Aside0.mk hb4
        clear hb4 HSB
        go_wp2_with fail
        refine (HAW.out w4 HB4.out).mono ?_
        rintro e w5 ⟨rfl, hb5⟩
        go_wp2
        go_ret
        exact ⟨rfl, HBZ.out.trans ((HB4.out.trans (hb5.mono HB4.out.size)).mono HBZ.out.size)⟩
      · have hXO : ¬ (ns X = ns O) := fun e => hRV (same_data (D := D) (by omega) (by rw [hRL2]; exact HLD.out) (by rw [hVL2, hRL2]; exact HLD.out) HRC.out HVC.out (by rw [hVT, ← HXX.out]; exact ns_inj e))
        rw [decide_eq_false hXO] at HSB
        have hn5 : 5 ≤ (dif R V i).length := Classical.byContradiction fun hc => hRV (dif_few (by omega) hVL2 HRC.out HVC.out (by rw [hRL2, ← hiL2]; omega))
        replace HSB := Aside0.mk HSB
        clear hiL2 hRL2 hVL2 hpx hVT hXO hRV hb
        generalize (dif R V i).length = dn at hn5 ⊢
        have hd0 : ((dn : Int) == 0) = false := by rw [beq_eq_false_iff_ne]; omega
        have hd1 : ¬ ((dn : Int) = 0) := by omega
        have hd5 : (5 : Int) ≤ (dn : Int) := by omega
        go_wp2_with fail
        refine HSB.out.mono ?_
        rintro e w4 ⟨rfl, hb4⟩
        have HB4 := Aside0.mk hb4
        clear hb4 HSB
        go_wp2_with fail
        refine (HAW.out w4 HB4.out).mono ?_
        rintro e w5 ⟨rfl, hb5⟩
        go_wp2
        go_ret
        exact ⟨rfl, HBZ.out.trans ((HB4.out.trans (hb5.mono HB4.out.size)).mono HBZ.out.size)⟩
/-- The law, its arguments' bounds as the row hands them over. -/
theorem apart_law (A0 : Option Addr) (c0 : Nat) (l0 : List Int) (A1 : Option Addr) (c1 : Nat) (z : List (Int × Int × Bool)) (w : World) (hr0 : Kd.C (Kd.int .u8) w A0 l0.length l0) (hc0 : l0.length ≤ c0) (hp0 : ∀ x ∈ l0, 0 ≤ x ∧ x < 256) (hl0 : l0.length ≤ 140737488351232) (hr1 : kNz.C w A1 z.length z) (hc1 : z.length ≤ c1) (hz : ∀ x ∈ z, okNz x) (hp : PW w) :
    Calls Tryd.prog 3 #[.slice A0 l0.length c0, .slice A1 z.length c1] w fun e w' => e = .returned (.bool true) ∧ Below w.heap.size w w' :=
  apart_any A0 c0 l0 A1 c1 z w hp hr0 hc0 hl0 hp0 hr1 hc1 hz
end Go.Proofs.YtlifghomejdhnaaDoor
