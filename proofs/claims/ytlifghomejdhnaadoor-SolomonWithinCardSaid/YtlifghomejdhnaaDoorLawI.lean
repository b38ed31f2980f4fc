/- The law SolomonWithin: whatever is read, what Decode returns is a code word within the bound of it, and the code word itself is read as it is. -/
import Derived.Test.YtlifghomejdhnaaDoorWthn
set_option linter.unusedVariables false
set_option linter.unusedSimpArgs false
namespace Go.Proofs.YtlifghomejdhnaaDoor
open Go.RowKit Go.Shelf Go.Proofs.YtlifghomejdhnaaDoorW.PrintWords Go.Proofs.YtlifghomejdhnaaDoorW.PrintLast Go.Proofs.YtlifghomejdhnaaDoorW.PrintMore Go.Proofs.YtlifghomejdhnaaDoor.Q Go.Proofs.YtlifghomejdhnaaDoor.Gf

def vlen : Value → Nat
  | .slice _ n _ => n
  | _ => 0
theorem is_snoc (P : List Nat) (p : Nat) : is (P ++ [p]) = is P ++ [(p : Int)] := by
  unfold is
  rw [List.map_append]
  rfl
theorem ns_snoc1 (R : List G) (j : Nat) : ns (R ++ List.replicate (j + 1) 1) = ns (R ++ List.replicate j 1) ++ [1] := by
  rw [List.replicate_succ', ← List.append_assoc, ns_append _ [1]]
  rfl
/-- Decode reads a code word as it is. -/
theorem Dec_self (gx cx : Nat) (x : List G) (N : Nat) (hxl : x.length = N) (W : World) (hp : PW W) (hrx : CRow (Value.int .u8) 0 W gx (ns x)) (hcx : N ≤ cx) (h4 : 4 < N) (hn : N ≤ 63) (hc : Code x) :
    Calls Tryd.prog 23 #[.slice (some ⟨gx, 0, none⟩) N cx, .slice none 0 0] W fun e w' => ∃ g cy AF cF, e = .returned (.tuple #[.agg #[.slice (some ⟨g, 0, none⟩) N cy, .slice AF 0 cF], .int .i64 0]) ∧ N ≤ cy ∧ CRow (Value.int .u8) 0 w' g (ns x) ∧ Below W.heap.size W w' := by
  subst hxl
  have h := Dec_near (some ⟨gx, 0, none⟩) cx x none 0 [] x W hp (by have := hrx.reads (by rw [ns_length]; omega); rwa [ns_length] at this) hcx h4 hn (Kd.C_nil _ _) (Nat.le_refl _) (by decide) (by simp) List.nodup_nil (near_self hc List.nodup_nil (by decide))
  rw [errL_self] at h
  refine h.mono ?_
  rintro e w' ⟨g, cy, AF, cF, rfl, h1, -, -, h2, -, h3⟩
  exact ⟨g, cy, AF, cF, rfl, h1, h2, h3⟩
attribute [local go_sem] max2_int min2_int max_two min_two max_three min_three
set_option maxHeartbeats 16000000 in
set_option maxRecDepth 1000000 in
theorem within_walk (A0 : Option Addr) (c0 : Nat) (l0 : List Int) (A1 : Option Addr) (c1 : Nat) (l1 : List Int) (w : World) (hp : PW w) (hr0 : Kd.C (Kd.int .u8) w A0 l0.length l0) (hc0 : l0.length ≤ c0) (hl0 : l0.length ≤ 140737488351232) (hp0 : ∀ x ∈ l0, 0 ≤ x ∧ x < 256) (hr1 : Kd.C (Kd.int .u8) w A1 l1.length l1) (hc1 : l1.length ≤ c1) (hl1 : l1.length ≤ 140737488351232) (hp1 : ∀ x ∈ l1, 0 ≤ x ∧ x < 256) :
    Calls Tryd.prog 6 #[.slice A0 l0.length c0, .slice A1 l1.length c1] w fun e w' => e = .returned (.bool true) ∧ Below w.heap.size w w' := by
  have HR := Aside0.mk hr0
  have HPX := Aside0.mk hp0
  have HR1 := Aside0.mk hr1
  have HPX1 := Aside0.mk hp1
  have HP := Aside0.mk hp
  clear hr0 hp0 hr1 hp1 hp
  obtain ⟨m, hm⟩ : ∃ m, min l0.length 63 = m := ⟨_, rfl⟩
  have hmm : (if (63 : Int) < (l0.length : Int) then (63 : Int) else (l0.length : Int)) = (m : Int) := by split <;> omega
  have hml : m ≤ l0.length := by omega
  have hm63 : m ≤ 63 := by omega
  have hmc : m ≤ c0 := by omega
  obtain ⟨q, hq⟩ : ∃ q, min l1.length 6 = q := ⟨_, rfl⟩
  have hqq : (if (6 : Int) < (l1.length : Int) then (6 : Int) else (l1.length : Int)) = (q : Int) := by split <;> omega
  have hql : q ≤ l1.length := by omega
  have hq6 : q ≤ 6 := by omega
  have hqc : q ≤ c1 := by omega
  clear hm hq
  go_enter Tryd.func6, Tryd.ntmps6
  go_wp2_with fail
  go_loopw [5, 23] (fun v i wr => ∃ k : Nat, k ≤ m ∧ i = .int .i64 k ∧ Own .u8 5 wr w.heap.size v (md (l0.take k)) ∧ Below w.heap.size w wr) (fun _ i _ => m - (intOf i).toNat)
  case atStart => exact ⟨0, Nat.zero_le _, rfl, World.ownsRow_nil _ _ _ _, Below.refl _ _⟩
  case round =>
    obtain ⟨k, hk, rfl, ho, hb⟩ := hrel
    have HO := Aside0.mk ho
    have HB := Aside0.mk hb
    have HS := Aside0.mk hb.size
    clear ho hb
    by_cases hpk : k < m
    · obtain ⟨ad, rfl, hx⟩ := Kd.at_int HR.out k (by omega) (by omega)
      have hx2 := pw_cell_below HB.out hx
      have hx0 := HPX.out _ (rd_mem l0 k (by omega))
      have HT := Aside0.mk (take_snoc_rd l0 k (by omega))
      simp only [Int.toNat_natCast] at hx2
      clear hx
      generalize rd l0 k = x at hx2 hx0 HT
      obtain ⟨hx0, hx1⟩ := hx0
      have HL := Aside0.mk (show ((md (l0.take k)).length + 1) * 1 ≤ 140737488355328 by rw [md_length, List.length_take]; omega)
      go_wp2_with (first | (at_builtin; refine print_append_num (w0 := w) w.heap.size rfl _ _ 22 5 .u8 1 rfl Tryd.underlying22 info_u8 (by decide) u5 (md (l0.take k)) _ rfl rfl HO.out HB.out HS.out HL.out ?_; intro v1 w1 hown hB1 hg hat; have HO1 := Aside0.mk hown; have HB1 := Aside0.mk hB1; clear hown hB1 hg hat))
      go_roundw
      case rel =>
        refine ⟨k + 1, by omega, by go_num, ?_, HB1.out⟩
        rw [HT.out, md_append]
        exact HO1.out
      case measure => simp [intOf]; omega
    · have hkn : ¬ ((k : Int) < (m : Int)) := by omega
      obtain ⟨G0, hG0⟩ : ∃ G0, G0 = mdG (l0.take m) := ⟨_, rfl⟩
      have hGl : G0.length = m := by rw [hG0, mdG_length, List.length_take]; omega
      have HG := Aside0.mk (show md (l0.take k) = ns G0 by rw [hG0, mdG_ns, show k = m by omega])
      rw [HG.out] at HO
      have HGL := Aside0.mk hGl
      clear hG0 hGl HG
      go_wp2_with fail
      go_loopw [5] (fun v wz => ∃ j : Nat, (j = 0 ∨ m + j ≤ 5) ∧ Own .u8 5 wz w.heap.size v (ns (G0 ++ List.replicate j 1)) ∧ Below w.heap.size w wz) (fun v _ => 5 - vlen v)
      case atStart => exact ⟨0, .inl rfl, by simpa using HO.out, HB.out⟩
      case round =>
        obtain ⟨j, hj, ho, hb⟩ := hrel
        have HO := Aside0.mk ho
        have HB := Aside0.mk hb
        have HS := Aside0.mk hb.size
        obtain ⟨A5, c5, hv5⟩ := own_form ho
        have hlen : (ns (G0 ++ List.replicate j 1)).length = m + j := by rw [ns_length, List.length_append, List.length_replicate, HGL.out]
        rw [hlen] at hv5
        subst hv5
        by_cases hmj : m + j < 5
        · have hlt : ((m : Int) + (j : Int)) < 5 := by omega
          have HL := Aside0.mk (show ((ns (G0 ++ List.replicate j 1)).length + 1) * 1 ≤ 140737488355328 by rw [hlen]; omega)
          have HSN := Aside0.mk (ns_snoc1 G0 j)
          have HLN := Aside0.mk hlen
          clear ho hb hlen
          go_wp2_with (first | (at_builtin; refine print_append_num (w0 := w) w.heap.size rfl _ _ 22 5 .u8 1 rfl Tryd.underlying22 info_u8 (by decide) (.slice A5 (m + j) c5) (ns (G0 ++ List.replicate j 1)) _ rfl rfl HO.out HB.out HS.out HL.out ?_; intro v1 w1 hown hB1 hg hat; have HO1 := Aside0.mk hown; have HB1 := Aside0.mk hB1; clear hown hB1 hg hat))
          go_roundw
          case rel => exact ⟨j + 1, by omega, by rw [HSN.out]; exact HO1.out, HB1.out⟩
          case measure =>
            obtain ⟨A6, c6, hv6⟩ := own_form HO1.out
            rw [hv6, List.length_append, HLN.out]
            simp only [vlen, List.length_singleton]
            omega
        · have hge : ¬ (((m : Int) + (j : Int)) < 5) := by omega
          obtain ⟨wm, rfl⟩ : ∃ x, x = wr := ⟨wr, rfl⟩
          obtain ⟨g, cg, he, hcg, hgb, hrow⟩ := own_crow' ho hlen (by omega)
          injection he with he1 he2 he3
          subst he1 he3
          obtain ⟨l, hl⟩ : ∃ l, l = G0 ++ List.replicate j 1 := ⟨_, rfl⟩
          rw [← hl] at hrow hlen
          rw [ns_length] at hlen
          have hN5 : 5 ≤ m + j := by omega
          have hN63 : m + j ≤ 63 := by omega
          generalize hN : m + j = N at hlen hcg hN5 hN63 ⊢
          have hge : ¬ ((N : Int) < 5) := by omega
          have HLL := Aside0.mk hlen
          have HRW := Aside0.mk hrow
          have HGB := Aside0.mk hgb
          have hmk : ∀ W : World, (Instr.makeSlice 44 (.int .i64 (N : Int)) (.int .i64 (N : Int))).run Tryd.prog W = .ok (.slice (some ⟨W.heap.size, 0, none⟩) N N) (W.alloc (.cells (madeCells #[.bool false] N) 4)) :=
            print_make_of 44 4 (.bool false) 1 Tryd.underlying44 info_bool rfl (by decide) N (by omega)
          have HM := Aside0.mk (show CRow Value.bool false (wm.alloc (.cells (madeCells #[.bool false] N) 4)) wm.heap.size (marks N []) by rw [marks_nil]; exact CRow.made Value.bool false wm 4 N)
          have HBM := Aside0.mk (below_al wm (.cells (madeCells #[.bool false] N) 4))
          obtain ⟨bs, hbs⟩ : ∃ bs, bs = wm.heap.size + 1 := ⟨_, rfl⟩
          have HBS := Aside0.mk hbs
          have HBS2 := Aside0.mk (show (wm.alloc (.cells (madeCells #[.bool false] N) 4)).heap.size = bs by rw [hbs]; simp)
          clear ho hb hlen hl hN hrow hgb hj hbs
          go_wp2_with fail
          go_loopw [8, 48] (fun v i wz => ∃ (k : Nat) (P : List Nat), k ≤ q ∧ i = .int .i64 k ∧ P.Nodup ∧ (∀ p ∈ P, p < N) ∧ P.length ≤ k ∧ bs ≤ wz.heap.size ∧ Own .i64 3 wz bs v (is P) ∧ CRow Value.bool false wz wm.heap.size (marks N P) ∧ Below wm.heap.size wm wz) (fun _ i _ => q - (intOf i).toNat)
          case atStart => exact ⟨0, [], Nat.zero_le _, rfl, List.nodup_nil, by simp, by simp, by rw [HBS2.out]; exact Nat.le_refl _, World.ownsRow_nil _ _ _ _, HM.out, HBM.out⟩
          case round =>
            obtain ⟨k, P, hk, rfl, hPd, hPb, hPl, hbsz, ho, hm, hb⟩ := hrel
            by_cases hkq : k < q
            · obtain ⟨ad, rfl, hx⟩ := Kd.at_int HR1.out k (by omega) (by omega)
              have hbw := HB.out.trans (hb.mono HB.out.size)
              have hx2 := pw_cell_below hbw hx
              have hx0 := HPX1.out _ (rd_mem l1 k (by omega))
              simp only [Int.toNat_natCast] at hx2
              clear hx
              generalize rd l1 k = y at hx2 hx0
              obtain ⟨hx0, hx1⟩ := hx0
              obtain ⟨p, hpy⟩ : ∃ p : Nat, y % (N : Int) = (p : Int) := ⟨(y % (N : Int)).toNat, by have := Int.emod_nonneg y (show (N : Int) ≠ 0 by omega); omega⟩
              have hpN : p < N := by have := Int.emod_lt_of_pos y (show (0 : Int) < (N : Int) by omega); omega
              have hN0 : ¬ ((N : Int) = 0) := by omega
              have hcm := hm.cell p (by rw [marks_length]; exact hpN)
              have hfm := hm.free p (by rw [marks_length]; exact hpN)
              rw [marks_at _ _ _ hpN] at hcm
              have hbp : (0 : Int) ≤ (p : Int) ∧ (p : Int) < (N : Int) := by omega
              have HPD := Aside0.mk hPd
              have HPB := Aside0.mk hPb
              have HO8 := Aside0.mk ho
              have HMK := Aside0.mk hm
              have HBK := Aside0.mk hb
              by_cases hin : p ∈ P
              · rw [decide_eq_true hin] at hcm
                clear hm hb ho hbw hPd hPb hin
                go_wp2_with fail
                go_roundw
                case rel => exact ⟨k + 1, P, by omega, by go_num, HPD.out, HPB.out, by omega, hbsz, HO8.out, HMK.out, HBK.out⟩
                case measure => simp [intOf]; omega
              · rw [decide_eq_false hin] at hcm
                have hset := hm.set p (by rw [marks_length]; exact hpN) true
                rw [marks_set _ _ _ hpN] at hset
                have HSET := Aside0.mk hset
                have HSB := Aside0.mk (hb.setCell (p := ⟨wm.heap.size, p, none⟩) (Nat.le_refl _) (.bool true))
                have HOS := Aside0.mk (ho.set wm.heap.size p (.bool true) (by have := HBS.out; omega))
                have HIS := Aside0.mk (is_snoc P p)
                have HLP := Aside0.mk (show ((is P).length + 1) * 8 ≤ 140737488355328 by rw [is_length]; omega)
                have HND := Aside0.mk (show (P ++ [p]).Nodup by rw [List.nodup_append]; exact ⟨hPd, by simp, fun a ha b hb2 => by simp at hb2; subst hb2; exact fun e => hin (e ▸ ha)⟩)
                have HNB := Aside0.mk (show ∀ z ∈ P ++ [p], z < N from fun z hz => (List.mem_append.1 hz).elim (hPb z) (fun h => by simp at h; omega))
                have HNL := Aside0.mk (show (P ++ [p]).length ≤ k + 1 by simp; omega)
                have HSZ := Aside0.mk (show bs ≤ (wr.setCell ⟨wm.heap.size, p, none⟩ (.bool true)).heap.size by simpa using hbsz)
                generalize hws : wr.setCell ⟨wm.heap.size, p, none⟩ (.bool true) = ws at HSET HSB HOS HSZ
                clear hm hb ho hbw hPd hPb hin hset
                go_wp2_with (first | (at_builtin; refine print_append_num (w0 := ws) bs rfl _ _ 26 3 .i64 8 rfl Tryd.underlying26 info_int (by decide) u8 (is P) _ rfl rfl HOS.out (Below.refl _ _) HSZ.out HLP.out ?_; intro v1 w1 hown hB1 hg hat; have HO1 := Aside0.mk hown; have HB1 := Aside0.mk hB1; clear hown hB1 hg hat))
                go_roundw
                case rel =>
                  refine ⟨k + 1, P ++ [p], by omega, by go_num, HND.out, HNB.out, HNL.out, Nat.le_trans HSZ.out HB1.out.size, by rw [HIS.out]; exact HO1.out, HSET.out.belowB HB1.out (by have := HBS.out; omega), HSB.out.trans (HB1.out.mono (by have := HBS.out; omega))⟩
                case measure => simp [intOf]; omega
            · have hkn : ¬ ((k : Int) < (q : Int)) := by omega
              obtain ⟨AO, cO, hv, hcO, hrO⟩ := Kd.R_reads ho.toR
              rw [is_length] at hv hcO hrO
              subst hv
              have hpr := (HP.out.below HB.out).below (hb.mono (Nat.le_refl _))
              have hrg := HRW.out.below (hb.mono (Nat.le_refl _))
              have hrd := hrg.reads (by rw [ns_length, HLL.out]; omega)
              rw [ns_length] at hrd
              have hdec := Dec_all (some ⟨g, 0, none⟩) c5 l AO cO P wr hpr hrd (by rw [HLL.out]; exact hcg) (by rw [HLL.out]; omega) (by rw [HLL.out]; omega) hrO hcO (by omega) (fun p hp => by rw [HLL.out]; exact hPb p hp) hPd
              rw [HLL.out] at hdec
              obtain ⟨PN, hPN⟩ : ∃ PN, PN = P.length := ⟨_, rfl⟩
              rw [← hPN] at hdec hcO hrO hPl ⊢
              have HPN := Aside0.mk hPN
              have HDEC := Aside0.mk hdec
              have HPR := Aside0.mk hpr
              have HRG := Aside0.mk hrg
              have HRO := Aside0.mk hrO
              have HPD := Aside0.mk hPd
              have HPB := Aside0.mk hPb
              have HBK := Aside0.mk (HB.out.trans (hb.mono HB.out.size))
              clear ho hm hb hpr hrg hrd hrO hdec hPd hPb hPN
              go_wp2_with fail
              refine HDEC.out.mono ?_
              rintro e w3 ⟨hcase, hb3⟩
              have HB3 := Aside0.mk (HBK.out.trans (hb3.mono HBK.out.size))
              rcases hcase with ⟨rfl, hno⟩ | ⟨hP4, x, gx, cx, AE, cE, rfl, hnear, hcx, hcE, hrx, hre⟩
              · have hbz := hb3.trans ((below_al w3 (.cells #[.slice none 0 0, .slice none 0 0] 39)).mono hb3.size)
                have HBZ := Aside0.mk (HBK.out.trans (hbz.mono HBK.out.size))
                have HRZ := Aside0.mk (HRG.out.below hbz)
                by_cases h4P : 4 < PN
                · have h4i : (4 : Int) < (PN : Int) := by omega
                  have HAW := Aside0.mk (awake_any (w3.alloc (.cells #[.slice none 0 0, .slice none 0 0] 39)) (HPR.out.below hbz))
                  clear hno hb3 hbz HDEC
                  go_wp2_with fail
                  refine HAW.out.mono ?_
                  rintro e w4 ⟨rfl, hb4⟩
                  go_wp2
                  go_ret
                  exact ⟨rfl, HBZ.out.trans (hb4.mono HBZ.out.size)⟩
                · have h4i : ¬ ((4 : Int) < (PN : Int)) := by omega
                  have hncode : ¬ Code l := fun hc => (hno.resolve_left h4P) l (near_self hc HPD.out (by have := HPN.out; omega))
                  have HVA := Aside0.mk (Valid_ok (some ⟨g, 0, none⟩) c5 l (w3.alloc (.cells #[.slice none 0 0, .slice none 0 0] 39)) (HPR.out.below hbz) (HRZ.out.reads (by rw [ns_length, HLL.out]; omega) |> fun h => by rwa [ns_length] at h) (by rw [HLL.out]; exact hcg) (by rw [HLL.out]; omega) (by rw [HLL.out]; omega))
                  rw [HLL.out, decide_eq_false hncode] at HVA
                  have HAW := Aside0.mk (fun (W : World) (hb : Below w.heap.size w W) => awake_any W (HP.out.below hb))
                  clear hno hb3 hbz HDEC hncode
                  go_wp2_with fail
                  refine HVA.out.mono ?_
                  rintro e w4 ⟨rfl, hb4⟩
                  have HB4 := Aside0.mk (HBZ.out.trans (hb4.mono HBZ.out.size))
                  clear hb4
                  go_wp2_with fail
                  refine (HAW.out w4 HB4.out).mono ?_
                  rintro e w5 ⟨rfl, hb5⟩
                  go_wp2
                  go_ret
                  exact ⟨rfl, HB4.out.trans (hb5.mono HB4.out.size)⟩
              · have hxl : x.length = N := by rw [hnear.len, HLL.out]
                have hxc := hnear.code
                have HNE := Aside0.mk hnear
                obtain ⟨EN, hEN⟩ : ∃ EN, EN = (errL l P x).length := ⟨_, rfl⟩
                rw [← hEN] at hcE hre ⊢
                have HEN := Aside0.mk hEN
                obtain ⟨w4, hw4⟩ : ∃ w4, w3.alloc (.cells #[.slice (some ⟨gx, 0, none⟩) N cx, .slice AE EN cE] 39) = w4 := ⟨_, rfl⟩
                have hb4 : Below w3.heap.size w3 w4 := by rw [← hw4]; exact below_al w3 _
                have hblk : w4.heap[w3.heap.size]? = some (.cells #[.slice (some ⟨gx, 0, none⟩) N cx, .slice AE EN cE] 39 (0, 0)) := by rw [← hw4]; exact heap_alloc_new w3 _
                have HF := Aside0.mk hblk
                have hf0 : (w3.alloc (.cells #[.slice (some ⟨gx, 0, none⟩) N cx, .slice AE EN cE] 39)).cell? ⟨w3.heap.size, 0, none⟩ = some (.slice (some ⟨gx, 0, none⟩) N cx) := by rw [hw4]; unfold World.cell?; rw [hblk]; simp
                have HPR4 := Aside0.mk ((HPR.out.below hb3).below hb4)
                have HRX4 := Aside0.mk (hrx.below hb4)
                have HRE4 := Aside0.mk (Kd.C_below hre hb4)
                have HRG4 := Aside0.mk ((HRG.out.below hb3).below hb4)
                have HRO4 := Aside0.mk (Kd.C_below (Kd.C_below HRO.out hb3) hb4)
                have HB4 := Aside0.mk (HB3.out.trans (hb4.mono HB3.out.size))
                have HD2 := Aside0.mk (Dec_self gx cx x N hxl w4 HPR4.out HRX4.out hcx (by omega) hN63 hxc)
                have HXL := Aside0.mk hxl
                have HW4 := Aside0.mk hw4
                clear hb3 hrx hre hw4 hb4 hblk hxl hxc hnear hEN HDEC HBK HPR HRG HRO HB3
                go_wp2_with fail
                rw [HW4.out]
                refine HD2.out.mono ?_
                rintro e w5 ⟨gy, cy, AF, cF, rfl, hcy, hry, hb5⟩
                obtain ⟨w6, hw6⟩ : ∃ w6, w5.alloc (.cells #[.slice (some ⟨gy, 0, none⟩) N cy, .slice AF 0 cF] 39) = w6 := ⟨_, rfl⟩
                have hb6 : Below w5.heap.size w5 w6 := by rw [← hw6]; exact below_al w5 _
                have hblk2 : w6.heap[w5.heap.size]? = some (.cells #[.slice (some ⟨gy, 0, none⟩) N cy, .slice AF 0 cF] 39 (0, 0)) := by rw [← hw6]; exact heap_alloc_new w5 _
                have hb46 : Below w4.heap.size w4 w6 := hb5.trans (hb6.mono hb5.size)
                have hblk1 := blk_below HF.out hb46
                have HF2 := Aside0.mk hblk1
                have HG2 := Aside0.mk hblk2
                have hp0 : (w5.alloc (.cells #[.slice (some ⟨gy, 0, none⟩) N cy, .slice AF 0 cF] 39)).cell? ⟨w3.heap.size, 0, none⟩ = some (.slice (some ⟨gx, 0, none⟩) N cx) := by rw [hw6]; unfold World.cell?; rw [hblk1]; simp
                have hp1 : (w5.alloc (.cells #[.slice (some ⟨gy, 0, none⟩) N cy, .slice AF 0 cF] 39)).cell? ⟨w3.heap.size, 1, none⟩ = some (.slice AE EN cE) := by rw [hw6]; unfold World.cell?; rw [hblk1]; simp
                have HWI := within_any g c5 l AO cO P gx cx x AE cE w6 (HPR4.out.below hb46) (HRG4.out.below hb46) (by rw [HLL.out]; exact hcg) (by rw [HLL.out]; omega) (by rw [HLL.out]; omega) (by rw [← HPN.out]; exact Kd.C_below HRO4.out hb46) (by rw [← HPN.out]; exact hcO) (fun p hp => by rw [HLL.out]; exact HPB.out p hp) HNE.out (HRX4.out.below hb46) (by rw [HLL.out]; exact hcx) (by rw [← HEN.out]; exact Kd.C_below HRE4.out hb46) (by rw [← HEN.out]; exact hcE)
                rw [HLL.out, ← HPN.out, ← HEN.out] at HWI
                replace HWI := Aside0.mk HWI
                have HRY := Aside0.mk (hry.below hb6)
                have HRX6 := Aside0.mk (HRX4.out.below hb46)
                have HB6 := Aside0.mk (HB4.out.trans (hb46.mono HB4.out.size))
                have HW6 := Aside0.mk hw6
                have HPR6 := Aside0.mk (HPR4.out.below hb46)
                clear hf0 hry hb5 hb6 hb46 hblk1 hblk2 hw6 HD2
                go_wp2_with fail
                rw [HW6.out]
                refine HWI.out.mono ?_
                rintro e w7 ⟨rfl, hb7⟩
                have HF7 := Aside0.mk (blk_below HF2.out hb7)
                have HG7 := Aside0.mk (blk_below HG2.out hb7)
                have hq0 : w7.cell? ⟨w3.heap.size, 0, none⟩ = some (.slice (some ⟨gx, 0, none⟩) N cx) := by unfold World.cell?; rw [HF7.out]; simp
                have hq1 : w7.cell? ⟨w5.heap.size, 0, none⟩ = some (.slice (some ⟨gy, 0, none⟩) N cy) := by unfold World.cell?; rw [HG7.out]; simp
                have HSB := letterbagkit_SameBytes.calls 70 (some ⟨gy, 0, none⟩) cy (ns x) (some ⟨gx, 0, none⟩) cx (ns x) true w7 ((HRY.out.below hb7).reads (by rw [ns_length, HXL.out]; omega)) (by rw [ns_length, HXL.out]; exact hcy) ((HRX6.out.below hb7).reads (by rw [ns_length, HXL.out]; omega)) (by rw [ns_length, HXL.out]; exact hcx) (same_self (ns x) (by rw [ns_length, HXL.out]; omega))
                rw [ns_length, HXL.out] at HSB
                replace HSB := Aside0.mk HSB
                have HB7 := Aside0.mk (HB6.out.trans (hb7.mono HB6.out.size))
                clear hb7 hp0 hp1 HWI
                go_wp2_with fail
                refine HSB.out.mono ?_
                rintro e w8 ⟨rfl, hd8⟩
                have HG8 := Aside0.mk (blk_below HG7.out hd8.below)
                have hq2 : w8.cell? ⟨w5.heap.size, 1, none⟩ = some (.slice AF 0 cF) := by unfold World.cell?; rw [HG8.out]; simp
                have HB8 := Aside0.mk (HB7.out.trans (hd8.below.mono HB7.out.size))
                have HAW := Aside0.mk (awake_any w8 (HP.out.below HB8.out))
                clear hd8 HSB hq0 hq1
                go_wp2_with fail
                refine HAW.out.mono ?_
                rintro e w9 ⟨rfl, hb9⟩
                go_wp2
                go_ret
                exact ⟨rfl, HB8.out.trans (hb9.mono HB8.out.size)⟩
/-- The law, its arguments' bounds as the row hands them over. -/
theorem within_law (A0 : Option Addr) (c0 : Nat) (l0 : List Int) (A1 : Option Addr) (c1 : Nat) (l1 : List Int) (w : World) (hr0 : Kd.C (Kd.int .u8) w A0 l0.length l0) (hc0 : l0.length ≤ c0) (hp0 : ∀ x ∈ l0, 0 ≤ x ∧ x < 256) (hl0 : l0.length ≤ 140737488351232) (hr1 : Kd.C (Kd.int .u8) w A1 l1.length l1) (hc1 : l1.length ≤ c1) (hp1 : ∀ x ∈ l1, 0 ≤ x ∧ x < 256) (hl1 : l1.length ≤ 140737488351232) (hp : PW w) :
    Calls Tryd.prog 6 #[.slice A0 l0.length c0, .slice A1 l1.length c1] w fun e w' => e = .returned (.bool true) ∧ Below w.heap.size w w' :=
  within_walk A0 c0 l0 A1 c1 l1 w hp hr0 hc0 hl0 hp0 hr1 hc1 hl1 hp1
end Go.Proofs.YtlifghomejdhnaaDoor
