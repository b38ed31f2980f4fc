/- within: of a code word within the bound it says so. -/
import Derived.Test.YtlifghomejdhnaaDoorCode
import Derived.Test.YtlifghomejdhnaaDoorAwak
set_option linter.unusedVariables false
set_option linter.unusedSimpArgs false
namespace Go.Proofs.YtlifghomejdhnaaDoor
open Go.RowKit Go.Shelf Go.Proofs.YtlifghomejdhnaaDoorW.PrintWords Go.Proofs.YtlifghomejdhnaaDoorW.PrintLast Go.Proofs.YtlifghomejdhnaaDoorW.PrintMore Go.Proofs.YtlifghomejdhnaaDoor.Q Go.Proofs.YtlifghomejdhnaaDoor.Gf

theorem info_bool : (Tryd.prog.info? 4).map (fun i => (i.zero, i.size, i.bytes)) = some (some (.bool false), 1, 1) := by kernel_rfl
theorem own_crow' {k : IntKind} {e : TypeId} {W : World} {base : Nat} {v : Value} {l : List Int} {n : Nat} (h : Own k e W base v l) (hn : l.length = n) (hl : 0 < n) : ∃ g c, v = .slice (some ⟨g, 0, none⟩) n c ∧ n ≤ c ∧ base ≤ g ∧ CRow (Value.int k) 0 W g l := by
  subst hn
  exact own_crow h hl
theorem nodup_len : ∀ (a b : List Nat), a.Nodup → (∀ x ∈ a, x ∈ b) → a.length ≤ b.length
  | [], _, _, _ => by simp
  | x :: a, b, hn, h => by
    rw [List.nodup_cons] at hn
    have hx := h x (by simp)
    have := nodup_len a (b.erase x) hn.2 fun y hy => (List.mem_erase_of_ne (fun (e : y = x) => hn.1 (e ▸ hy))).2 (h y (by simp [hy]))
    rw [List.length_erase_of_mem hx] at this
    have := List.length_pos_of_mem hx
    simp
    omega
theorem near_len {l w : List G} {P : List Nat} (h : Near l P w) : 2 * (errL l P w).length + P.length ≤ 4 := by
  obtain ⟨C, hd, hb, h4, hq⟩ := h.bound
  have := nodup_len (errL l P w) C ((errL_sorted l P w).imp (fun h => Nat.ne_of_lt h)) fun p hp => by
    obtain ⟨h1, h2, h3⟩ := mem_errL.1 hp
    exact Classical.byContradiction fun hc => h3 (hq p h1 h2 hc).symm
  omega
def errF (l : List G) (P : List Nat) (w : List G) (p : Nat) : Bool := decide (p ∉ P) && decide (l.getD p 0 ≠ w.getD p 0)
def errK (l : List G) (P : List Nat) (w : List G) (p : Nat) : List Nat := (List.range p).filter (errF l P w)
theorem errK_all (l : List G) (P : List Nat) (w : List G) : errK l P w l.length = errL l P w := rfl
theorem errK_succ (l : List G) (P : List Nat) (w : List G) (p : Nat) : errK l P w (p + 1) = errK l P w p ++ (if errF l P w p then [p] else []) := by
  unfold errK
  rw [List.range_succ, List.filter_append]
  cases h : errF l P w p <;> simp [h]
theorem errK_pre (l : List G) (P : List Nat) (w : List G) (p : Nat) : ∀ n, ∃ t, errK l P w (p + n) = errK l P w p ++ t
  | 0 => ⟨[], by simp⟩
  | n + 1 => by
    obtain ⟨t, ht⟩ := errK_pre l P w p n
    exact ⟨t ++ (if errF l P w (p + n) then [p + n] else []), by rw [← Nat.add_assoc, errK_succ, ht, List.append_assoc]⟩
theorem errK_at {l : List G} {P : List Nat} {w : List G} {p : Nat} (hp : p < l.length) (h : errF l P w p = true) : (errK l P w p).length < (errL l P w).length ∧ (errL l P w).getD (errK l P w p).length 0 = p := by
  obtain ⟨t, ht⟩ := errK_pre l P w (p + 1) (l.length - (p + 1))
  rw [show p + 1 + (l.length - (p + 1)) = l.length by omega, errK_all, errK_succ, h, if_pos rfl] at ht
  rw [ht]
  refine ⟨by simp, ?_⟩
  rw [List.getD_eq_getElem?_getD, List.append_assoc, List.getElem?_append_right (Nat.le_refl _), Nat.sub_self]
  rfl
/-- Which of the places below N are in a list. -/
def marks (N : Nat) (P : List Nat) : List Bool := (List.range N).map fun p => decide (p ∈ P)
theorem marks_length (N : Nat) (P : List Nat) : (marks N P).length = N := by simp [marks]
theorem marks_at (N : Nat) (P : List Nat) (p : Nat) (h : p < N) : (marks N P).getD p false = decide (p ∈ P) := by
  unfold marks
  rw [List.getD_eq_getElem?_getD, List.getElem?_map, List.getElem?_range h]
  rfl
theorem marks_nil (N : Nat) : marks N [] = List.replicate N false := by
  unfold marks
  apply List.ext_getElem (by simp)
  intro i h1 h2
  simp
theorem marks_set (N : Nat) (P : List Nat) (q : Nat) (h : q < N) : (marks N P).set q true = marks N (P ++ [q]) := by
  unfold marks
  apply List.ext_getElem (by simp)
  intro i h1 h2
  rw [List.getElem_set]
  simp only [List.getElem_map, List.getElem_range, List.mem_append, List.mem_singleton]
  by_cases e : q = i
  · simp [e]
  · rw [if_neg e]
    have : ¬ i = q := fun h => e h.symm
    simp [this]
theorem nodup_take {P : List Nat} (h : P.Nodup) {i : Nat} (hi : i < P.length) : P.getD i 0 ∉ P.take i := fun hm => by
  obtain ⟨j, hj, e⟩ := List.mem_iff_getElem.1 hm
  rw [List.length_take] at hj
  rw [List.getElem_take] at e
  have := nodup_getD h (i := j) (j := i) (by omega) hi (by rw [List.getD_eq_getElem?_getD, List.getElem?_eq_getElem (by omega)]; exact e)
  omega
theorem errL_self (x : List G) : errL x [] x = [] := by
  unfold errL
  rw [List.filter_eq_nil_iff]
  intro a _
  simp
theorem near_self {x : List G} {P : List Nat} (hc : Code x) (hd : P.Nodup) (h4 : P.length ≤ 4) : Near x P x := ⟨rfl, hc, [], by simpa using hd, by simp, by simpa using h4, fun _ _ _ _ => rfl⟩
/-- What Decode answers, for places that are a list of places. -/
theorem Dec_all (A : Option Addr) (c : Nat) (l : List G) (A1 : Option Addr) (c1 : Nat) (P : List Nat) (w : World) (hp : PW w) (hr : Kd.C (Kd.int .u8) w A l.length (ns l)) (hc : l.length ≤ c) (h4 : 4 < l.length) (hn : l.length ≤ 63) (hr1 : Kd.C (Kd.int .i64) w A1 P.length (is P)) (hc1 : P.length ≤ c1) (hn1 : P.length ≤ 60) (hPb : ∀ p ∈ P, p < l.length) (hPd : P.Nodup) :
    Calls Tryd.prog 23 #[.slice A l.length c, .slice A1 P.length c1] w fun e w' =>
      ((e = .returned (.tuple #[.agg #[.slice none 0 0, .slice none 0 0], .int .i64 190]) ∧ (4 < P.length ∨ ∀ x, ¬ Near l P x)) ∨
        (P.length ≤ 4 ∧ ∃ x g cx AE cE, e = .returned (.tuple #[.agg #[.slice (some ⟨g, 0, none⟩) l.length cx, .slice AE (errL l P x).length cE], .int .i64 0]) ∧ Near l P x ∧ l.length ≤ cx ∧ (errL l P x).length ≤ cE ∧ CRow (Value.int .u8) 0 w' g (ns x) ∧ Kd.C (Kd.int .i64) w' AE (errL l P x).length (is (errL l P x)))) ∧ Below w.heap.size w w' := by
  by_cases hP : 4 < P.length
  · have hok : ∀ i, i < (is P).length → okAt l.length (is P) i := fun i hi => by
      rw [is_length] at hi
      unfold okAt
      rw [is_getD, is_take, is_mem]
      have := hPb _ (getD_mem0 hi)
      exact ⟨by omega, by omega, nodup_take hPd hi⟩
    have h := Dec_places A c l A1 (is P) c1 w hr hc h4 hn (by rw [is_length]; exact hr1) (by rw [is_length]; exact hc1) (by rw [is_length]; omega) (fun _ => by rw [is_length]; exact hP)
    rw [is_length] at h hok
    refine h.mono ?_
    rintro e w' ⟨n, rfl, hn | hn, hb⟩
    · exact absurd hok hn.2
    · obtain ⟨rfl, _⟩ := hn
      exact ⟨.inl ⟨rfl, .inl hP⟩, hb⟩
  · refine (Dec_main A c l A1 c1 P w hp hr hc h4 hn hr1 hc1 (by omega) hPb hPd).mono ?_
    rintro e w' ⟨r, hS, hR, hB⟩
    refine ⟨?_, hB⟩
    cases r with
    | none =>
      have hR : e = .returned (.tuple #[.agg #[.slice none 0 0, .slice none 0 0], .int .i64 190]) := hR
      subst hR
      exact .inl ⟨rfl, .inr fun x => dec_none hn hPd hPb hS⟩
    | some xe =>
      obtain ⟨x, er⟩ := xe
      obtain ⟨g, hg, hgood⟩ := hS
      obtain ⟨h1, h2⟩ := dec_some hPd hPb (by omega) hg hgood
      subst h2
      obtain ⟨g, cx, v, rfl, h3, h5, h6, h7⟩ := hR
      obtain ⟨AE, cE, rfl, hcE, hrE⟩ := Kd.R_reads h7.toR
      rw [is_length] at hcE hrE ⊢
      rw [h1.len] at h3 ⊢
      exact .inr ⟨by omega, x, g, cx, AE, cE, rfl, h1, h3, hcE, h6, hrE⟩
attribute [local go_sem] max2_int min2_int max_two min_two max_three min_three
set_option maxHeartbeats 16000000 in
set_option maxRecDepth 1000000 in
theorem within_any (g c : Nat) (l : List G) (A1 : Option Addr) (c1 : Nat) (P : List Nat) (gx cx : Nat) (x : List G) (AE : Option Addr) (cE : Nat) (w : World) (hp : PW w) (hr : CRow (Value.int .u8) 0 w g (ns l)) (hc : l.length ≤ c) (h4 : 4 < l.length) (hn : l.length ≤ 63) (hr1 : Kd.C (Kd.int .i64) w A1 P.length (is P)) (hc1 : P.length ≤ c1) (hPb : ∀ p ∈ P, p < l.length) (hx : Near l P x) (hrx : CRow (Value.int .u8) 0 w gx (ns x)) (hcx : l.length ≤ cx) (hre : Kd.C (Kd.int .i64) w AE (errL l P x).length (is (errL l P x))) (hce : (errL l P x).length ≤ cE) :
    Calls Tryd.prog 25 #[.slice (some ⟨g, 0, none⟩) l.length c, .slice A1 P.length c1, .agg #[.slice (some ⟨gx, 0, none⟩) l.length cx, .slice AE (errL l P x).length cE]] w fun e w' => e = .returned (.bool true) ∧ Below w.heap.size w w' := by
  have hnl := near_len hx
  have hxl := hx.len
  have hxc := hx.code
  obtain ⟨E, hE⟩ : ∃ E, E = errL l P x := ⟨_, rfl⟩
  have HEL := Aside0.mk hE
  rw [← hE] at hre hce hnl ⊢
  obtain ⟨N, hN⟩ : ∃ N, N = l.length := ⟨_, rfl⟩
  have HN := Aside0.mk hN
  rw [← hN] at hc h4 hn hPb hxl hcx ⊢
  obtain ⟨EN, hEN⟩ : ∃ EN, EN = E.length := ⟨_, rfl⟩
  have HEN := Aside0.mk hEN
  rw [← hEN] at hre hce hnl ⊢
  obtain ⟨PN, hPN⟩ : ∃ PN, PN = P.length := ⟨_, rfl⟩
  have HPN := Aside0.mk hPN
  rw [← hPN] at hr1 hc1 hnl ⊢
  obtain ⟨wb, hwb⟩ : ∃ wb, w.alloc (.cells #[.slice (some ⟨gx, 0, none⟩) N cx, .slice AE EN cE] 39) = wb := ⟨_, rfl⟩
  have hbb : Below w.heap.size w wb := by rw [← hwb]; exact below_al w _
  have HF := Aside0.mk (show wb.heap[w.heap.size]? = some (.cells #[.slice (some ⟨gx, 0, none⟩) N cx, .slice AE EN cE] 39 (0, 0)) by rw [← hwb]; exact heap_alloc_new w _)
  have HV := Aside0.mk (Valid_ok (some ⟨gx, 0, none⟩) cx x wb (hp.below hbb) (by have := (hrx.below hbb).reads (by rw [ns_length, hxl]; omega); rwa [ns_length] at this) (by omega) (by omega) (by omega))
  rw [hxl] at HV
  have HXC := Aside0.mk (decide_eq_true hxc)
  have HR := Aside0.mk (hr.below hbb)
  have HRX := Aside0.mk (hrx.below hbb)
  have HR1 := Aside0.mk (Kd.C_below hr1 hbb)
  have HRE := Aside0.mk (Kd.C_below hre hbb)
  have HB := Aside0.mk hbb
  have HPB := Aside0.mk hPb
  have HXL := Aside0.mk hxl
  clear hr hrx hr1 hre hbb hp hE hN hEN hPN hPb hx hxl hxc
  go_enter Tryd.func25, Tryd.ntmps25
  have hf0 : wb.cell? ⟨w.heap.size, 0, none⟩ = some (.slice (some ⟨gx, 0, none⟩) N cx) := by unfold World.cell?; rw [HF.out]; simp
  go_wp2_with fail
  refine HV.out.mono ?_
  rintro e w1 ⟨rfl, hb1⟩
  rw [HXC.out]
  have HF1 := Aside0.mk (blk_below HF.out hb1)
  have hg0 : w1.cell? ⟨w.heap.size, 0, none⟩ = some (.slice (some ⟨gx, 0, none⟩) N cx) := by unfold World.cell?; rw [HF1.out]; simp
  have hg1 : w1.cell? ⟨w.heap.size, 1, none⟩ = some (.slice AE EN cE) := by unfold World.cell?; rw [HF1.out]; simp
  have HB1 := Aside0.mk (HB.out.trans (hb1.mono HB.out.size))
  replace HR := Aside0.mk (HR.out.below hb1)
  replace HRX := Aside0.mk (HRX.out.below hb1)
  replace HR1 := Aside0.mk (Kd.C_below HR1.out hb1)
  replace HRE := Aside0.mk (Kd.C_below HRE.out hb1)
  have hmk : ∀ W : World, (Instr.makeSlice 44 (.int .i64 (N : Int)) (.int .i64 (N : Int))).run Tryd.prog W = .ok (.slice (some ⟨W.heap.size, 0, none⟩) N N) (W.alloc (.cells (madeCells #[.bool false] N) 4)) :=
    print_make_of 44 4 (.bool false) 1 Tryd.underlying44 info_bool rfl (by decide) N (by omega)
  have HM := Aside0.mk (show CRow Value.bool false (w1.alloc (.cells (madeCells #[.bool false] N) 4)) w1.heap.size (marks N []) by rw [marks_nil]; exact CRow.made Value.bool false w1 4 N)
  have HBM := Aside0.mk (below_al w1 (.cells (madeCells #[.bool false] N) 4))
  clear hf0 hb1 HV HB HF
  go_wp2_with fail
  go_loopw [39] (fun i wr => ∃ k : Nat, k ≤ PN ∧ i = .int .i64 k ∧ CRow Value.bool false wr w1.heap.size (marks N (P.take k)) ∧ Below w1.heap.size w1 wr) (fun i _ => PN - (intOf i).toNat)
  case atStart => exact ⟨0, Nat.zero_le _, rfl, HM.out, HBM.out⟩
  case round =>
    obtain ⟨k, hk, rfl, hm, hb⟩ := hrel
    have HMK := Aside0.mk hm
    have HBK := Aside0.mk hb
    by_cases hkP : k < PN
    · obtain ⟨ad, hA1, hx⟩ := Kd.at_int (Kd.C_below HR1.out hb) k (by omega) (by omega)
      rw [is_rd, Int.toNat_natCast] at hx
      subst hA1
      have hpN : P.getD k 0 < N := HPB.out _ (getD_mem0 (by have := HPN.out; omega))
      have HTK := Aside0.mk (show P.take (k + 1) = P.take k ++ [P.getD k 0] from take_snoc P k (by have := HPN.out; omega))
      generalize P.getD k 0 = p at hx hpN HTK
      have hcm := hm.cell p (by rw [marks_length]; exact hpN)
      have hfm := hm.free p (by rw [marks_length]; exact hpN)
      have hset := hm.set p (by rw [marks_length]; exact hpN) true
      rw [marks_set _ _ _ hpN, ← HTK.out] at hset
      have HSET := Aside0.mk hset
      have HSB := Aside0.mk (hb.setCell (p := ⟨w1.heap.size, p, none⟩) (Nat.le_refl _) (.bool true))
      have hbp : (0 : Int) ≤ (p : Int) ∧ (p : Int) < (N : Int) := by omega
      clear hm hb hset
      go_wp2_with fail
      go_roundw
      case rel => exact ⟨k + 1, by omega, by go_num, HSET.out, HSB.out⟩
      case measure => simp [intOf]; omega
    · have hkn : ¬ ((k : Int) < (PN : Int)) := by omega
      have hkP2 : k = PN := by omega
      have hm2 : CRow Value.bool false wr w1.heap.size (marks N P) := by
        have e : P.take k = P := List.take_of_length_le (by have := HPN.out; omega)
        rwa [e] at hm
      have HM2 := Aside0.mk hm2
      have HB3 := Aside0.mk hb
      clear hm hb hm2 HMK HBK
      go_wp2_with fail
      go_loopw [10, 49] (fun vk i wz => ∃ p : Nat, p ≤ N ∧ i = .int .i64 p ∧ vk = .int .i64 ((errK l P x p).length : Nat) ∧ CRow Value.bool false wz w1.heap.size (marks N P) ∧ Below w1.heap.size w1 wz) (fun _ i _ => N - (intOf i).toNat)
      case atStart => exact ⟨0, Nat.zero_le _, rfl, rfl, HM2.out, HB3.out⟩
      case round =>
        obtain ⟨p, hpl, rfl, rfl, hm, hb⟩ := hrel
        have HMK := Aside0.mk hm.drew
        have HBK := Aside0.mk hb.drew
        have HKS := Aside0.mk (errK_succ l P x p)
        by_cases hpN : p < N
        · have hcm := hm.drew.cell p (by rw [marks_length]; exact hpN)
          rw [marks_at _ _ _ hpN] at hcm
          have hcl := (HR.out.below hb.drew).cell p (by have := HN.out; rw [ns_length]; omega)
          have hcx := (HRX.out.below hb.drew).cell p (by have := HXL.out; rw [ns_length]; omega)
          rw [ns_at] at hcl hcx
          have hfd : wr.drew.cell? ⟨w.heap.size, 0, none⟩ = some (.slice (some ⟨gx, 0, none⟩) N cx) := by unfold World.cell?; rw [blk_below HF1.out hb.drew]; simp
          have hff : wr.drew.cell? ⟨w.heap.size, 1, none⟩ = some (.slice AE EN cE) := by unfold World.cell?; rw [blk_below HF1.out hb.drew]; simp
          have hbp : (0 : Int) ≤ (p : Int) ∧ (p : Int) < (N : Int) := by omega
          clear hm hb
          by_cases h1 : p ∈ P
          · have HK1 := Aside0.mk (show (errK l P x (p + 1)).length = (errK l P x p).length by rw [HKS.out]; simp [errF, h1])
            rw [decide_eq_true h1] at hcm
            go_wp2_with fail
            refine start_ (n := 16) (S := fun w' => w'.cell? ⟨w1.heap.size, p, none⟩ = some (.bool true)) (ds := []) #[false, false, false, false, false, false, false, false, false, false, false, false, false, false, false, false] (by kernel_rfl) rfl rfl (hcm) (fun hHeld => ?_)
            refine pure_ (i := 0) (N := some 52) (v := ?_) (a' := ?_) #[true, false, false, false, false, false, false, false, false, false, false, false, false, false, false, false] rfl rfl (by kernel_rfl) (fun _ _ _ h => h) (Or.inl ⟨by rfl, ?_⟩) ?_ ?_
            rotate_left
            · intro w'
              go_simp
              with_reducible rfl
            rotate_left
            · simp only [Act.put, List.setIfInBounds_toArray, List.set_cons_zero, List.set_cons_succ, i64_w, i32_w]
              rfl
            refine pure_ (i := 1) (N := some 53) (v := ?_) (a' := ?_) #[true, true, false, false, false, false, false, false, false, false, false, false, false, false, false, false] rfl rfl (by kernel_rfl) (fun _ _ _ h => h) (Or.inl ⟨by rfl, ?_⟩) ?_ ?_
            rotate_left
            · intro w'
              go_simp
              with_reducible rfl
            rotate_left
            · simp only [Act.put, List.setIfInBounds_toArray, List.set_cons_zero, List.set_cons_succ, i64_w, i32_w]
              rfl
            refine pure_ (i := 2) (N := some 54) (v := ?_) (a' := ?_) #[true, true, true, false, false, false, false, false, false, false, false, false, false, false, false, false] rfl rfl (by kernel_rfl) (fun _ _ _ h => h) (Or.inl ⟨by rfl, ?_⟩) ?_ ?_
            rotate_left
            · intro w'
              go_simp
              with_reducible rfl
            rotate_left
            · simp only [Act.put, List.setIfInBounds_toArray, List.set_cons_zero, List.set_cons_succ, i64_w, i32_w]
              rfl
            refine take_ (i := 3) (N := some 55) (v := ?_) (a' := ?_) #[true, true, true, true, false, false, false, false, false, false, false, false, false, false, false, false] rfl rfl (by kernel_rfl) (fun _ _ _ h => h) (Or.inl ⟨by rfl, ?_⟩) hHeld ?_ ?_
            rotate_left
            · intro w' s0
              go_simp
              with_reducible rfl
            rotate_left
            · simp only [Act.put, List.setIfInBounds_toArray, List.set_cons_zero, List.set_cons_succ, i64_w, i32_w]
              rfl
            refine pure_ (i := 4) (N := some 56) (v := ?_) (a' := ?_) #[true, true, true, true, true, false, false, false, false, false, false, false, false, false, false, false] rfl rfl (by kernel_rfl) (fun _ _ _ h => h) (Or.inl ⟨by rfl, ?_⟩) ?_ ?_
            rotate_left
            · intro w'
              go_simp
              with_reducible rfl
            rotate_left
            · simp only [Act.put, List.setIfInBounds_toArray, List.set_cons_zero, List.set_cons_succ, i64_w, i32_w]
              rfl
            refine pure_ (i := 5) (N := some 57) (v := undef) (a' := ?_) #[true, true, true, true, true, true, false, false, false, false, false, false, false, false, false, false] rfl rfl (by kernel_rfl) (fun _ _ _ h => h) (Or.inr ⟨by rfl, rfl⟩) ?_ ?_
            rotate_left
            · simp only [Act.put, List.setIfInBounds_toArray, List.set_cons_zero, List.set_cons_succ, i64_w, i32_w]
              rfl
            refine pure_ (i := 6) (N := some 58) (v := undef) (a' := ?_) #[true, true, true, true, true, true, true, false, false, false, false, false, false, false, false, false] rfl rfl (by kernel_rfl) (fun _ _ _ h => h) (Or.inr ⟨by rfl, rfl⟩) ?_ ?_
            rotate_left
            · simp only [Act.put, List.setIfInBounds_toArray, List.set_cons_zero, List.set_cons_succ, i64_w, i32_w]
              rfl
            refine pure_ (i := 7) (N := some 59) (v := undef) (a' := ?_) #[true, true, true, true, true, true, true, true, false, false, false, false, false, false, false, false] rfl rfl (by kernel_rfl) (fun _ _ _ h => h) (Or.inr ⟨by rfl, rfl⟩) ?_ ?_
            rotate_left
            · simp only [Act.put, List.setIfInBounds_toArray, List.set_cons_zero, List.set_cons_succ, i64_w, i32_w]
              rfl
            refine pure_ (i := 8) (N := some 60) (v := undef) (a' := ?_) #[true, true, true, true, true, true, true, true, true, false, false, false, false, false, false, false] rfl rfl (by kernel_rfl) (fun _ _ _ h => h) (Or.inr ⟨by rfl, rfl⟩) ?_ ?_
            rotate_left
            · simp only [Act.put, List.setIfInBounds_toArray, List.set_cons_zero, List.set_cons_succ, i64_w, i32_w]
              rfl
            refine pure_ (i := 9) (N := some 61) (v := undef) (a' := ?_) #[true, true, true, true, true, true, true, true, true, true, false, false, false, false, false, false] rfl rfl (by kernel_rfl) (fun _ _ _ h => h) (Or.inr ⟨by rfl, rfl⟩) ?_ ?_
            rotate_left
            · simp only [Act.put, List.setIfInBounds_toArray, List.set_cons_zero, List.set_cons_succ, i64_w, i32_w]
              rfl
            refine pure_ (i := 10) (N := some 62) (v := undef) (a' := ?_) #[true, true, true, true, true, true, true, true, true, true, true, false, false, false, false, false] rfl rfl (by kernel_rfl) (fun _ _ _ h => h) (Or.inr ⟨by rfl, rfl⟩) ?_ ?_
            rotate_left
            · simp only [Act.put, List.setIfInBounds_toArray, List.set_cons_zero, List.set_cons_succ, i64_w, i32_w]
              rfl
            refine pure_ (i := 11) (N := some 63) (v := undef) (a' := ?_) #[true, true, true, true, true, true, true, true, true, true, true, true, false, false, false, false] rfl rfl (by kernel_rfl) (fun _ _ _ h => h) (Or.inr ⟨by rfl, rfl⟩) ?_ ?_
            rotate_left
            · simp only [Act.put, List.setIfInBounds_toArray, List.set_cons_zero, List.set_cons_succ, i64_w, i32_w]
              rfl
            refine pure_ (i := 12) (N := some 64) (v := undef) (a' := ?_) #[true, true, true, true, true, true, true, true, true, true, true, true, true, false, false, false] rfl rfl (by kernel_rfl) (fun _ _ _ h => h) (Or.inr ⟨by rfl, rfl⟩) ?_ ?_
            rotate_left
            · simp only [Act.put, List.setIfInBounds_toArray, List.set_cons_zero, List.set_cons_succ, i64_w, i32_w]
              rfl
            refine pure_ (i := 13) (N := some 65) (v := undef) (a' := ?_) #[true, true, true, true, true, true, true, true, true, true, true, true, true, true, false, false] rfl rfl (by kernel_rfl) (fun _ _ _ h => h) (Or.inr ⟨by rfl, rfl⟩) ?_ ?_
            rotate_left
            · simp only [Act.put, List.setIfInBounds_toArray, List.set_cons_zero, List.set_cons_succ, i64_w, i32_w]
              rfl
            refine pure_ (i := 14) (N := some 66) (v := undef) (a' := ?_) #[true, true, true, true, true, true, true, true, true, true, true, true, true, true, true, false] rfl rfl (by kernel_rfl) (fun _ _ _ h => h) (Or.inr ⟨by rfl, rfl⟩) ?_ ?_
            rotate_left
            · simp only [Act.put, List.setIfInBounds_toArray, List.set_cons_zero, List.set_cons_succ, i64_w, i32_w]
              rfl
            refine pure_ (i := 15) (N := some 67) (v := ?_) (a' := ?_) #[true, true, true, true, true, true, true, true, true, true, true, true, true, true, true, true] rfl rfl (by kernel_rfl) (fun _ _ _ h => h) (Or.inl ⟨by rfl, ?_⟩) ?_ ?_
            rotate_left
            · intro w'
              go_simp
              with_reducible rfl
            rotate_left
            · simp only [Act.put, List.setIfInBounds_toArray, List.set_cons_zero, List.set_cons_succ, i64_w, i32_w]
              rfl
            refine done_ (by kernel_rfl) ?_
            go_wp2
            go_roundw
            case rel => exact ⟨p + 1, by omega, by go_num, by rw [HK1.out], HMK.out, HBK.out⟩
            case measure => simp [intOf]; omega
          · rw [decide_eq_false h1] at hcm
            by_cases h2 : l.getD p 0 = x.getD p 0
            · have HK1 := Aside0.mk (show (errK l P x (p + 1)).length = (errK l P x p).length by rw [HKS.out, show errF l P x p = false by unfold errF; rw [decide_eq_false (show ¬ (l.getD p 0 ≠ x.getD p 0) from fun h => h h2), Bool.and_false]]; simp)
              rw [← h2] at hcx
              clear h2
              generalize l.getD p 0 = y at hcl hcx
              go_wp2_with fail
              refine start_ (n := 16) (S := fun w' => w'.cell? ⟨w1.heap.size, p, none⟩ = some (.bool false) ∧ w'.cell? ⟨g, p, none⟩ = some (.int .u8 (y.n : Nat)) ∧ w'.cell? ⟨w.heap.size, 0, none⟩ = some (.slice (some ⟨gx, 0, none⟩) N cx) ∧ w'.cell? ⟨gx, p, none⟩ = some (.int .u8 (y.n : Nat))) (ds := []) #[false, false, false, false, false, false, false, false, false, false, false, false, false, false, false, false] (by kernel_rfl) rfl rfl ⟨hcm, hcl, hfd, hcx⟩ (fun hHeld => ?_)
              refine pure_ (i := 0) (N := some 52) (v := ?_) (a' := ?_) #[true, false, false, false, false, false, false, false, false, false, false, false, false, false, false, false] rfl rfl (by kernel_rfl) (fun _ _ _ h => h) (Or.inl ⟨by rfl, ?_⟩) ?_ ?_
              rotate_left
              · intro w'
                go_simp
                with_reducible rfl
              rotate_left
              · simp only [Act.put, List.setIfInBounds_toArray, List.set_cons_zero, List.set_cons_succ, i64_w, i32_w]
                rfl
              refine pure_ (i := 1) (N := some 53) (v := ?_) (a' := ?_) #[true, true, false, false, false, false, false, false, false, false, false, false, false, false, false, false] rfl rfl (by kernel_rfl) (fun _ _ _ h => h) (Or.inl ⟨by rfl, ?_⟩) ?_ ?_
              rotate_left
              · intro w'
                go_simp
                with_reducible rfl
              rotate_left
              · simp only [Act.put, List.setIfInBounds_toArray, List.set_cons_zero, List.set_cons_succ, i64_w, i32_w]
                rfl
              refine pure_ (i := 2) (N := some 54) (v := ?_) (a' := ?_) #[true, true, true, false, false, false, false, false, false, false, false, false, false, false, false, false] rfl rfl (by kernel_rfl) (fun _ _ _ h => h) (Or.inl ⟨by rfl, ?_⟩) ?_ ?_
              rotate_left
              · intro w'
                go_simp
                with_reducible rfl
              rotate_left
              · simp only [Act.put, List.setIfInBounds_toArray, List.set_cons_zero, List.set_cons_succ, i64_w, i32_w]
                rfl
              refine take_ (i := 3) (N := some 55) (v := ?_) (a' := ?_) #[true, true, true, true, false, false, false, false, false, false, false, false, false, false, false, false] rfl rfl (by kernel_rfl) (fun _ _ _ h => h) (Or.inl ⟨by rfl, ?_⟩) hHeld ?_ ?_
              rotate_left
              · rintro w' ⟨s0, s1, s2, s3⟩
                go_simp
                with_reducible rfl
              rotate_left
              · simp only [Act.put, List.setIfInBounds_toArray, List.set_cons_zero, List.set_cons_succ, i64_w, i32_w]
                rfl
              refine pure_ (i := 4) (N := some 56) (v := ?_) (a' := ?_) #[true, true, true, true, true, false, false, false, false, false, false, false, false, false, false, false] rfl rfl (by kernel_rfl) (fun _ _ _ h => h) (Or.inl ⟨by rfl, ?_⟩) ?_ ?_
              rotate_left
              · intro w'
                go_simp
                with_reducible rfl
              rotate_left
              · simp only [Act.put, List.setIfInBounds_toArray, List.set_cons_zero, List.set_cons_succ, i64_w, i32_w]
                rfl
              refine pure_ (i := 5) (N := some 57) (v := ?_) (a' := ?_) #[true, true, true, true, true, true, false, false, false, false, false, false, false, false, false, false] rfl rfl (by kernel_rfl) (fun _ _ _ h => h) (Or.inl ⟨by rfl, ?_⟩) ?_ ?_
              rotate_left
              · intro w'
                go_simp
                with_reducible rfl
              rotate_left
              · simp only [Act.put, List.setIfInBounds_toArray, List.set_cons_zero, List.set_cons_succ, i64_w, i32_w]
                rfl
              refine pure_ (i := 6) (N := some 58) (v := ?_) (a' := ?_) #[true, true, true, true, true, true, true, false, false, false, false, false, false, false, false, false] rfl rfl (by kernel_rfl) (fun _ _ _ h => h) (Or.inl ⟨by rfl, ?_⟩) ?_ ?_
              rotate_left
              · intro w'
                go_simp
                with_reducible rfl
              rotate_left
              · simp only [Act.put, List.setIfInBounds_toArray, List.set_cons_zero, List.set_cons_succ, i64_w, i32_w]
                rfl
              refine pure_ (i := 7) (N := some 59) (v := ?_) (a' := ?_) #[true, true, true, true, true, true, true, true, false, false, false, false, false, false, false, false] rfl rfl (by kernel_rfl) (fun _ _ _ h => h) (Or.inl ⟨by rfl, ?_⟩) ?_ ?_
              rotate_left
              · intro w'
                go_simp
                with_reducible rfl
              rotate_left
              · simp only [Act.put, List.setIfInBounds_toArray, List.set_cons_zero, List.set_cons_succ, i64_w, i32_w]
                rfl
              refine pure_ (i := 9) (N := some 61) (v := ?_) (a' := ?_) #[true, true, true, true, true, true, true, true, false, true, false, false, false, false, false, false] rfl rfl (by kernel_rfl) (fun _ _ _ h => h) (Or.inl ⟨by rfl, ?_⟩) ?_ ?_
              rotate_left
              · intro w'
                go_simp
                with_reducible rfl
              rotate_left
              · simp only [Act.put, List.setIfInBounds_toArray, List.set_cons_zero, List.set_cons_succ, i64_w, i32_w]
                rfl
              refine pure_ (i := 11) (N := some 63) (v := ?_) (a' := ?_) #[true, true, true, true, true, true, true, true, false, true, false, true, false, false, false, false] rfl rfl (by kernel_rfl) (fun _ _ _ h => h) (Or.inl ⟨by rfl, ?_⟩) ?_ ?_
              rotate_left
              · intro w'
                go_simp
                with_reducible rfl
              rotate_left
              · simp only [Act.put, List.setIfInBounds_toArray, List.set_cons_zero, List.set_cons_succ, i64_w, i32_w]
                rfl
              refine take_ (i := 8) (N := some 60) (v := ?_) (a' := ?_) #[true, true, true, true, true, true, true, true, true, true, false, true, false, false, false, false] rfl rfl (by kernel_rfl) (fun _ _ _ h => h) (Or.inl ⟨by rfl, ?_⟩) hHeld ?_ ?_
              rotate_left
              · rintro w' ⟨s0, s1, s2, s3⟩
                go_simp
                with_reducible rfl
              rotate_left
              · simp only [Act.put, List.setIfInBounds_toArray, List.set_cons_zero, List.set_cons_succ, i64_w, i32_w]
                rfl
              refine take_ (i := 10) (N := some 62) (v := ?_) (a' := ?_) #[true, true, true, true, true, true, true, true, true, true, true, true, false, false, false, false] rfl rfl (by kernel_rfl) (fun _ _ _ h => h) (Or.inl ⟨by rfl, ?_⟩) hHeld ?_ ?_
              rotate_left
              · rintro w' ⟨s0, s1, s2, s3⟩
                go_simp
                with_reducible rfl
              rotate_left
              · simp only [Act.put, List.setIfInBounds_toArray, List.set_cons_zero, List.set_cons_succ, i64_w, i32_w]
                rfl
              refine pure_ (i := 12) (N := some 64) (v := ?_) (a' := ?_) #[true, true, true, true, true, true, true, true, true, true, true, true, true, false, false, false] rfl rfl (by kernel_rfl) (fun _ _ _ h => h) (Or.inl ⟨by rfl, ?_⟩) ?_ ?_
              rotate_left
              · intro w'
                go_simp
                with_reducible rfl
              rotate_left
              · simp only [Act.put, List.setIfInBounds_toArray, List.set_cons_zero, List.set_cons_succ, i64_w, i32_w]
                rfl
              refine take_ (i := 13) (N := some 65) (v := ?_) (a' := ?_) #[true, true, true, true, true, true, true, true, true, true, true, true, true, true, false, false] rfl rfl (by kernel_rfl) (fun _ _ _ h => h) (Or.inl ⟨by rfl, ?_⟩) hHeld ?_ ?_
              rotate_left
              · rintro w' ⟨s0, s1, s2, s3⟩
                go_simp
                with_reducible rfl
              rotate_left
              · simp only [Act.put, List.setIfInBounds_toArray, List.set_cons_zero, List.set_cons_succ, i64_w, i32_w]
                rfl
              refine pure_ (i := 14) (N := some 66) (v := ?_) (a' := ?_) #[true, true, true, true, true, true, true, true, true, true, true, true, true, true, true, false] rfl rfl (by kernel_rfl) (fun _ _ _ h => h) (Or.inl ⟨by rfl, ?_⟩) ?_ ?_
              rotate_left
              · intro w'
                go_simp
                with_reducible rfl
              rotate_left
              · simp only [Act.put, List.setIfInBounds_toArray, List.set_cons_zero, List.set_cons_succ, i64_w, i32_w]
                rfl
              refine pure_ (i := 15) (N := some 67) (v := ?_) (a' := ?_) #[true, true, true, true, true, true, true, true, true, true, true, true, true, true, true, true] rfl rfl (by kernel_rfl) (fun _ _ _ h => h) (Or.inl ⟨by rfl, ?_⟩) ?_ ?_
              rotate_left
              · intro w'
                go_simp
                with_reducible rfl
              rotate_left
              · simp only [Act.put, List.setIfInBounds_toArray, List.set_cons_zero, List.set_cons_succ, i64_w, i32_w]
                rfl
              refine done_ (by kernel_rfl) ?_
              go_wp2
              go_roundw
              case rel => exact ⟨p + 1, by omega, by go_num, by rw [HK1.out], HMK.out, HBK.out⟩
              case measure => simp [intOf]; omega
            · have hef : errF l P x p = true := by unfold errF; rw [decide_eq_true h1, Bool.true_and]; exact decide_eq_true h2
              have HK1 := Aside0.mk (show (errK l P x (p + 1)).length = (errK l P x p).length + 1 by rw [HKS.out, hef]; simp)
              have hat := errK_at (l := l) (P := P) (w := x) (by have := HN.out; omega) hef
              rw [← HEL.out, ← HEN.out] at hat
              obtain ⟨hkE, hkp⟩ := hat
              obtain ⟨ad, hA1, hx⟩ := Kd.at_int (Kd.C_below HRE.out HBK.out) (errK l P x p).length (by omega) (by omega)
              rw [is_rd, Int.toNat_natCast, hkp] at hx
              subst hA1
              have hne : ((((l.getD p 0).n : Nat) : Int) == (((x.getD p 0).n : Nat) : Int)) = false := by
                rw [beq_eq_false_iff_ne]
                intro e
                exact h2 (G.ext (by omega))
              have hbk : (0 : Int) ≤ ((errK l P x p).length : Int) ∧ ((errK l P x p).length : Int) < (EN : Int) := by omega
              have HBK2 := HBK
              clear h2 hef hkp
              generalize (errK l P x p).length = k at HK1 hkE hx hbk
              generalize l.getD p 0 = y at hcl hne
              generalize x.getD p 0 = z at hcx hne
              go_wp2_with fail
              refine start_ (n := 16) (S := fun w' => w'.cell? ⟨w1.heap.size, p, none⟩ = some (.bool false) ∧ w'.cell? ⟨g, p, none⟩ = some (.int .u8 (y.n : Nat)) ∧ w'.cell? ⟨w.heap.size, 0, none⟩ = some (.slice (some ⟨gx, 0, none⟩) N cx) ∧ w'.cell? ⟨gx, p, none⟩ = some (.int .u8 (z.n : Nat))) (ds := []) #[false, false, false, false, false, false, false, false, false, false, false, false, false, false, false, false] (by kernel_rfl) rfl rfl ⟨hcm, hcl, hfd, hcx⟩ (fun hHeld => ?_)
              refine pure_ (i := 0) (N := some 52) (v := ?_) (a' := ?_) #[true, false, false, false, false, false, false, false, false, false, false, false, false, false, false, false] rfl rfl (by kernel_rfl) (fun _ _ _ h => h) (Or.inl ⟨by rfl, ?_⟩) ?_ ?_
              rotate_left
              · intro w'
                go_simp
                with_reducible rfl
              rotate_left
              · simp only [Act.put, List.setIfInBounds_toArray, List.set_cons_zero, List.set_cons_succ, i64_w, i32_w]
                rfl
              refine pure_ (i := 1) (N := some 53) (v := ?_) (a' := ?_) #[true, true, false, false, false, false, false, false, false, false, false, false, false, false, false, false] rfl rfl (by kernel_rfl) (fun _ _ _ h => h) (Or.inl ⟨by rfl, ?_⟩) ?_ ?_
              rotate_left
              · intro w'
                go_simp
                with_reducible rfl
              rotate_left
              · simp only [Act.put, List.setIfInBounds_toArray, List.set_cons_zero, List.set_cons_succ, i64_w, i32_w]
                rfl
              refine pure_ (i := 2) (N := some 54) (v := ?_) (a' := ?_) #[true, true, true, false, false, false, false, false, false, false, false, false, false, false, false, false] rfl rfl (by kernel_rfl) (fun _ _ _ h => h) (Or.inl ⟨by rfl, ?_⟩) ?_ ?_
              rotate_left
              · intro w'
                go_simp
                with_reducible rfl
              rotate_left
              · simp only [Act.put, List.setIfInBounds_toArray, List.set_cons_zero, List.set_cons_succ, i64_w, i32_w]
                rfl
              refine take_ (i := 3) (N := some 55) (v := ?_) (a' := ?_) #[true, true, true, true, false, false, false, false, false, false, false, false, false, false, false, false] rfl rfl (by kernel_rfl) (fun _ _ _ h => h) (Or.inl ⟨by rfl, ?_⟩) hHeld ?_ ?_
              rotate_left
              · rintro w' ⟨s0, s1, s2, s3⟩
                go_simp
                with_reducible rfl
              rotate_left
              · simp only [Act.put, List.setIfInBounds_toArray, List.set_cons_zero, List.set_cons_succ, i64_w, i32_w]
                rfl
              refine pure_ (i := 4) (N := some 56) (v := ?_) (a' := ?_) #[true, true, true, true, true, false, false, false, false, false, false, false, false, false, false, false] rfl rfl (by kernel_rfl) (fun _ _ _ h => h) (Or.inl ⟨by rfl, ?_⟩) ?_ ?_
              rotate_left
              · intro w'
                go_simp
                with_reducible rfl
              rotate_left
              · simp only [Act.put, List.setIfInBounds_toArray, List.set_cons_zero, List.set_cons_succ, i64_w, i32_w]
                rfl
              refine pure_ (i := 5) (N := some 57) (v := ?_) (a' := ?_) #[true, true, true, true, true, true, false, false, false, false, false, false, false, false, false, false] rfl rfl (by kernel_rfl) (fun _ _ _ h => h) (Or.inl ⟨by rfl, ?_⟩) ?_ ?_
              rotate_left
              · intro w'
                go_simp
                with_reducible rfl
              rotate_left
              · simp only [Act.put, List.setIfInBounds_toArray, List.set_cons_zero, List.set_cons_succ, i64_w, i32_w]
                rfl
              refine pure_ (i := 6) (N := some 58) (v := ?_) (a' := ?_) #[true, true, true, true, true, true, true, false, false, false, false, false, false, false, false, false] rfl rfl (by kernel_rfl) (fun _ _ _ h => h) (Or.inl ⟨by rfl, ?_⟩) ?_ ?_
              rotate_left
              · intro w'
                go_simp
                with_reducible rfl
              rotate_left
              · simp only [Act.put, List.setIfInBounds_toArray, List.set_cons_zero, List.set_cons_succ, i64_w, i32_w]
                rfl
              refine pure_ (i := 7) (N := some 59) (v := ?_) (a' := ?_) #[true, true, true, true, true, true, true, true, false, false, false, false, false, false, false, false] rfl rfl (by kernel_rfl) (fun _ _ _ h => h) (Or.inl ⟨by rfl, ?_⟩) ?_ ?_
              rotate_left
              · intro w'
                go_simp
                with_reducible rfl
              rotate_left
              · simp only [Act.put, List.setIfInBounds_toArray, List.set_cons_zero, List.set_cons_succ, i64_w, i32_w]
                rfl
              refine pure_ (i := 9) (N := some 61) (v := ?_) (a' := ?_) #[true, true, true, true, true, true, true, true, false, true, false, false, false, false, false, false] rfl rfl (by kernel_rfl) (fun _ _ _ h => h) (Or.inl ⟨by rfl, ?_⟩) ?_ ?_
              rotate_left
              · intro w'
                go_simp
                with_reducible rfl
              rotate_left
              · simp only [Act.put, List.setIfInBounds_toArray, List.set_cons_zero, List.set_cons_succ, i64_w, i32_w]
                rfl
              refine pure_ (i := 11) (N := some 63) (v := ?_) (a' := ?_) #[true, true, true, true, true, true, true, true, false, true, false, true, false, false, false, false] rfl rfl (by kernel_rfl) (fun _ _ _ h => h) (Or.inl ⟨by rfl, ?_⟩) ?_ ?_
              rotate_left
              · intro w'
                go_simp
                with_reducible rfl
              rotate_left
              · simp only [Act.put, List.setIfInBounds_toArray, List.set_cons_zero, List.set_cons_succ, i64_w, i32_w]
                rfl
              refine take_ (i := 8) (N := some 60) (v := ?_) (a' := ?_) #[true, true, true, true, true, true, true, true, true, true, false, true, false, false, false, false] rfl rfl (by kernel_rfl) (fun _ _ _ h => h) (Or.inl ⟨by rfl, ?_⟩) hHeld ?_ ?_
              rotate_left
              · rintro w' ⟨s0, s1, s2, s3⟩
                go_simp
                with_reducible rfl
              rotate_left
              · simp only [Act.put, List.setIfInBounds_toArray, List.set_cons_zero, List.set_cons_succ, i64_w, i32_w]
                rfl
              refine take_ (i := 10) (N := some 62) (v := ?_) (a' := ?_) #[true, true, true, true, true, true, true, true, true, true, true, true, false, false, false, false] rfl rfl (by kernel_rfl) (fun _ _ _ h => h) (Or.inl ⟨by rfl, ?_⟩) hHeld ?_ ?_
              rotate_left
              · rintro w' ⟨s0, s1, s2, s3⟩
                go_simp
                with_reducible rfl
              rotate_left
              · simp only [Act.put, List.setIfInBounds_toArray, List.set_cons_zero, List.set_cons_succ, i64_w, i32_w]
                rfl
              refine pure_ (i := 12) (N := some 64) (v := ?_) (a' := ?_) #[true, true, true, true, true, true, true, true, true, true, true, true, true, false, false, false] rfl rfl (by kernel_rfl) (fun _ _ _ h => h) (Or.inl ⟨by rfl, ?_⟩) ?_ ?_
              rotate_left
              · intro w'
                go_simp
                with_reducible rfl
              rotate_left
              · simp only [Act.put, List.setIfInBounds_toArray, List.set_cons_zero, List.set_cons_succ, i64_w, i32_w]
                rfl
              refine take_ (i := 13) (N := some 65) (v := ?_) (a' := ?_) #[true, true, true, true, true, true, true, true, true, true, true, true, true, true, false, false] rfl rfl (by kernel_rfl) (fun _ _ _ h => h) (Or.inl ⟨by rfl, ?_⟩) hHeld ?_ ?_
              rotate_left
              · rintro w' ⟨s0, s1, s2, s3⟩
                go_simp
                with_reducible rfl
              rotate_left
              · simp only [Act.put, List.setIfInBounds_toArray, List.set_cons_zero, List.set_cons_succ, i64_w, i32_w]
                rfl
              refine pure_ (i := 14) (N := some 66) (v := ?_) (a' := ?_) #[true, true, true, true, true, true, true, true, true, true, true, true, true, true, true, false] rfl rfl (by kernel_rfl) (fun _ _ _ h => h) (Or.inl ⟨by rfl, ?_⟩) ?_ ?_
              rotate_left
              · intro w'
                go_simp
                with_reducible rfl
              rotate_left
              · simp only [Act.put, List.setIfInBounds_toArray, List.set_cons_zero, List.set_cons_succ, i64_w, i32_w]
                rfl
              refine pure_ (i := 15) (N := some 67) (v := ?_) (a' := ?_) #[true, true, true, true, true, true, true, true, true, true, true, true, true, true, true, true] rfl rfl (by kernel_rfl) (fun _ _ _ h => h) (Or.inl ⟨by rfl, ?_⟩) ?_ ?_
              rotate_left
              · intro w'
                go_simp
                with_reducible rfl
              rotate_left
              · simp only [Act.put, List.setIfInBounds_toArray, List.set_cons_zero, List.set_cons_succ, i64_w, i32_w]
                rfl
              refine done_ (by kernel_rfl) ?_
              go_wp2
              go_roundw
              case rel => exact ⟨p + 1, by omega, by go_num, by rw [HK1.out]; go_num, HMK.out, HBK.out⟩
              case measure => simp [intOf]; omega
        · have hpn : ¬ ((p : Int) < (N : Int)) := by omega
          have hkE : (errK l P x p).length = EN := by
            rw [show p = l.length by have := HN.out; omega, errK_all, HEN.out, HEL.out]
          rw [hkE]
          have hff : wr.cell? ⟨w.heap.size, 1, none⟩ = some (.slice AE EN cE) := by unfold World.cell?; rw [blk_below HF1.out hb]; simp
          have HBZ := Aside0.mk hb
          clear hkE hm hb
          go_wp2
          go_ret
          exact ⟨rfl, HB1.out.trans (HBZ.out.mono HB1.out.size)⟩
end Go.Proofs.YtlifghomejdhnaaDoor
