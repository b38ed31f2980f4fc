/- coded: walk. -/
import Derived.Test.YtlifghomejdhnaaDoorNear
set_option linter.unusedVariables false
set_option linter.unusedSimpArgs false
namespace Go.Proofs.YtlifghomejdhnaaDoor
open Go.RowKit Go.Shelf Go.Proofs.YtlifghomejdhnaaDoorW.PrintWords Go.Proofs.YtlifghomejdhnaaDoorW.PrintLast Go.Proofs.YtlifghomejdhnaaDoorW.PrintMore Go.Proofs.YtlifghomejdhnaaDoor.Q Go.Proofs.YtlifghomejdhnaaDoor.Gf

def md (l : List Int) : List Int := l.map fun b => b % 64
theorem md_append (a b : List Int) : md (a ++ b) = md a ++ md b := List.map_append
theorem md_length (a : List Int) : (md a).length = a.length := List.length_map _
def mdG (l : List Int) : List G := l.map fun x => gOf (x % 64).toNat
theorem mdG_ns (l : List Int) : ns (mdG l) = md l := by
  unfold ns mdG md
  rw [List.map_map]
  apply List.map_congr_left
  intro x _
  show ((gOf (x % 64).toNat).n : Int) = x % 64
  rw [gOf_n _ (by omega)]
  omega
theorem mdG_length (l : List Int) : (mdG l).length = l.length := List.length_map _
/-- The symbols that coded takes. -/
def dataG (l : List Int) : List G := if l.length = 0 then [0] else mdG (l.take 59)
theorem dataG_pos (l : List Int) : 0 < (dataG l).length := by
  unfold dataG
  split
  · simp
  · rw [mdG_length, List.length_take]; omega
theorem dataG_le (l : List Int) : (dataG l).length ≤ 59 := by
  unfold dataG
  split
  · simp
  · rw [mdG_length, List.length_take]; omega
theorem same_l0 (l : List Int) (hn : l.length ≤ 64) : ∀ (d i k : Nat), l.length ≤ d + i → i ≤ l.length → d < k → letterbagkit_SameBytes.l0 k l l (i : Int) = some true := by
  intro d
  induction d with
  | zero =>
    intro i k h1 h2 h3
    obtain ⟨k, rfl⟩ : ∃ k', k = k' + 1 := ⟨k - 1, by omega⟩
    rw [letterbagkit_SameBytes.l0, if_neg (by omega)]
  | succ d ih =>
    intro i k h1 h2 h3
    obtain ⟨k, rfl⟩ : ∃ k', k = k' + 1 := ⟨k - 1, by omega⟩
    by_cases hi : i < l.length
    · have e1 : wrap64 ((i : Int) + 1) = ((i + 1 : Nat) : Int) := by unfold wrap64; omega
      have := ih (i + 1) k (by omega) (by omega) (by omega)
      rw [← e1] at this
      rw [letterbagkit_SameBytes.l0]
      simp [this]
      try omega
    · rw [letterbagkit_SameBytes.l0, if_neg (by omega)]
theorem same_self (l : List Int) (hn : l.length ≤ 64) : letterbagkit_SameBytes.f 70 l l = some true := by
  unfold letterbagkit_SameBytes.f
  rw [if_pos rfl]
  exact same_l0 l hn l.length 0 70 (by omega) (by omega) (by omega)
theorem ns_take (R : List G) (n : Nat) : (ns R).take n = ns (R.take n) := by unfold ns; rw [List.map_take]
attribute [local go_sem] max2_int min2_int max_two min_two max_three min_three
set_option maxHeartbeats 8000000 in
set_option maxRecDepth 1000000 in
theorem coded_any (A : Option Addr) (c : Nat) (l : List Int) (w : World) (hp : PW w) (hr : Kd.C (Kd.int .u8) w A l.length l) (hc : l.length ≤ c) (hl : l.length ≤ 140737488351232) (hpx : ∀ x ∈ l, 0 ≤ x ∧ x < 256) :
    Calls Tryd.prog 9 #[.slice A l.length c] w fun e w' => ∃ g c, e = .returned (.tuple #[.slice (some ⟨g, 0, none⟩) ((dataG l).length + 4 : Nat) c, .bool true]) ∧ w.heap.size ≤ g ∧ (dataG l).length + 4 ≤ c ∧ ∃ R : List G, R.length = (dataG l).length + 4 ∧ R.take (dataG l).length = dataG l ∧ Code R ∧ CRow (Value.int .u8) 0 w' g (ns R) ∧ Below w.heap.size w w' := by
  have HR := Aside0.mk hr
  have HPX := Aside0.mk hpx
  have HP := Aside0.mk hp
  clear hr hpx hp
  obtain ⟨m, hm⟩ : ∃ m, min l.length 59 = m := ⟨_, rfl⟩
  have hmin : min (l.length : Int) 59 = (m : Int) := by omega
  have hmm : (if (59 : Int) < (l.length : Int) then (59 : Int) else (l.length : Int)) = (m : Int) := by split <;> omega
  have hmax : max (m : Int) 0 = (m : Int) := by omega
  have hml : m ≤ l.length := by omega
  have hm59 : m ≤ 59 := by omega
  have HM := Aside0.mk hm
  have hmc : m ≤ c := by omega
  clear hm
  go_enter Tryd.func9, Tryd.ntmps9
  go_wp2_with fail
  go_loopw [4, 15] (fun v i wr => ∃ k : Nat, k ≤ m ∧ i = .int .i64 k ∧ Own .u8 5 wr w.heap.size v (md (l.take k)) ∧ Below w.heap.size w wr) (fun _ i _ => m - (intOf i).toNat)
  case atStart => exact ⟨0, Nat.zero_le _, rfl, World.ownsRow_nil _ _ _ _, Below.refl _ _⟩
  case round =>
    obtain ⟨k, hk, rfl, ho, hb⟩ := hrel
    have HO := Aside0.mk ho
    have HB := Aside0.mk hb
    have HS := Aside0.mk hb.size
    clear ho hb
    by_cases hpk : k < m
    · obtain ⟨ad, rfl, hx⟩ := Kd.at_int HR.out k (by omega) (by omega)
      have hx2 := pw_cell_below HB.out hx
      have hx0 := HPX.out _ (rd_mem l k (by omega))
      have HT := Aside0.mk (take_snoc_rd l k (by omega))
      simp only [Int.toNat_natCast] at hx2
      clear hx
      generalize rd l k = x at hx2 hx0 HT
      obtain ⟨hx0, hx1⟩ := hx0
      have HL := Aside0.mk (show ((md (l.take k)).length + 1) * 1 ≤ 140737488355328 by rw [md_length, List.length_take]; omega)
      go_wp2_with (first | (at_builtin; refine print_append_num (w0 := w) w.heap.size rfl _ _ 22 5 .u8 1 rfl Tryd.underlying22 info_u8 (by decide) u4 (md (l.take k)) _ rfl rfl HO.out HB.out HS.out HL.out ?_; intro v1 w1 hown hB1 hg hat; have HO1 := Aside0.mk hown; have HB1 := Aside0.mk hB1; clear hown hB1 hg hat))
      go_roundw
      case rel =>
        refine ⟨k + 1, by omega, by go_num, ?_, HB1.out⟩
        rw [HT.out, md_append]
        exact HO1.out
      case measure => simp [intOf]; omega
    · have hkm : k = m := by omega
      have hkn : ¬ ((k : Int) < (m : Int)) := by omega
      have KEY : ∀ (D : List G) (AD : Option Addr) (cD : Nat) (wD : World), D = dataG l → Below w.heap.size w wD → Kd.C (Kd.int .u8) wD AD D.length (ns D) → D.length ≤ cD →
          Aside0 (Calls Tryd.prog 14 #[.slice AD D.length cD] wD fun e w' => ∃ g c, e = .returned (.tuple #[.slice (some ⟨g, 0, none⟩) (D.length + 4 : Nat) c, .int .i64 0]) ∧ wD.heap.size ≤ g ∧ D.length + 4 ≤ c ∧ ∃ R : List G, R.length = D.length + 4 ∧ R.take D.length = D ∧ Code R ∧ CRow (Value.int .u8) 0 w' g (ns R) ∧ Below wD.heap.size wD w') := fun D AD cD wD hD hB hR hcD => ⟨by
        subst hD
        exact Encode_ok AD cD _ wD (HP.out.below hB) hR hcD (dataG_pos l) (dataG_le l)⟩
      by_cases hl0 : l.length = 0
      · have hm0 : m = 0 := by have := HM.out; omega
        have hv : u4 = .slice none 0 0 ∨ ∃ A c, u4 = .slice A 0 c := by
          obtain ⟨A4, c4, h4⟩ := own_form HO.out
          right
          refine ⟨A4, c4, ?_⟩
          rw [h4, md_length, List.length_take, hl0]
          simp
        obtain ⟨A4, c4, hv4⟩ : ∃ A c, u4 = .slice A 0 c := by
          rcases hv with h | h
          · exact ⟨none, 0, h⟩
          · exact h
        subst hv4
        obtain ⟨wD, hwD⟩ : ∃ wD, wr.alloc (.cells #[.int .u8 0] 5) = wD := ⟨_, rfl⟩
        have hbD : Below wr.heap.size wr wD := by rw [← hwD]; exact (Below.refl _ wr).alloc (Nat.le_refl _) _
        have HBD := Aside0.mk (HB.out.trans (hbD.mono HB.out.size))
        obtain ⟨D, hD⟩ : ∃ D : List G, D = [0] := ⟨_, rfl⟩
        have HDD := Aside0.mk (show D = dataG l by rw [hD]; unfold dataG; rw [if_pos hl0])
        have HRD := Aside0.mk (show Kd.C (Kd.int .u8) wD (some ⟨wr.heap.size, 0, none⟩) 1 (ns D) by rw [← hwD, hD]; exact lit_reads wr .u8 5 (ns [0]) _ rfl 1 rfl (by omega))
        obtain ⟨N, hN⟩ : ∃ N, N = 1 := ⟨_, rfl⟩
        have HDN := Aside0.mk (show D.length = 1 by rw [hD]; rfl)
        have HEN := KEY D (some ⟨wr.heap.size, 0, none⟩) 1 wD HDD.out HBD.out (by rw [HDN.out]; exact HRD.out) (by rw [HDN.out]; omega)
        rw [HDN.out] at HEN
        have HCD := Aside0.mk (Nat.le_refl 1)
        clear hv hm0 hkm hbD hD hN
        go_wp2_with fail
        refine HEN.out.mono ?_
        rintro e w2 ⟨g, cg, rfl, hg, hcg, R, hRl, hRt, hRc, hRr, hb2⟩
        have HG := Aside0.mk (Nat.le_trans HBD.out.size hg)
        have HRR := Aside0.mk hRr
        have HRL := Aside0.mk hRl
        have HRT := Aside0.mk hRt
        have HRC := Aside0.mk hRc
        have HB2 := Aside0.mk (HBD.out.trans (hb2.mono HBD.out.size))
        have hrd := hRr.reads (by rw [ns_length]; omega)
        have htk := Kd.C_take hrd (m := 1) (by rw [ns_length, hRl]; omega)
        rw [ns_take, hRt] at htk
        have HSB := letterbagkit_SameBytes.calls 70 (some ⟨g, 0, none⟩) cg (ns D) (some ⟨wr.heap.size, 0, none⟩) 1 (ns D) true w2 htk (by rw [ns_length, HDN.out]; omega) (by rw [ns_length, HDN.out]; exact Kd.C_below HRD.out hb2) (by rw [ns_length, HDN.out]; exact HCD.out) (same_self (ns D) (by rw [ns_length, HDN.out]; omega))
        rw [ns_length, HDN.out] at HSB
        have HSB := Aside0.mk HSB
        have hNc : 1 ≤ cg := by omega
        have hN1 : True := trivial
        clear hrd htk hg hRl hRt hRc hRr hb2 HEN
        go_wp2_with fail
        refine HSB.out.mono ?_
        rintro e w3 ⟨rfl, hd3⟩
        have HR3 := Aside0.mk (HRR.out.below hd3.below)
        have HB3 := Aside0.mk (HB2.out.trans (hd3.below.mono HB2.out.size))
        clear hd3
        go_wp2_with fail
        go_ret2
        refine ⟨g, cg, ?_, HG.out, ?_, R, ?_, ?_, HRC.out, HR3.out, HB3.out⟩
        · rw [← HDD.out, HDN.out]; rfl
        · rw [← HDD.out, HDN.out]; exact hcg
        · rw [← HDD.out, HDN.out]; exact HRL.out
        · rw [← HDD.out, HDN.out]; exact HRT.out
      · obtain ⟨D, hD⟩ : ∃ D : List G, D = mdG (l.take 59) := ⟨_, rfl⟩
        have HDD := Aside0.mk (show D = dataG l by rw [hD]; unfold dataG; rw [if_neg hl0])
        obtain ⟨N, hN⟩ : ∃ N, N = m := ⟨_, rfl⟩
        have hDN : D.length = m := by
          rw [hD, mdG_length, List.length_take]
          have := HM.out
          omega
        have HDN := Aside0.mk hDN
        have hOD : Own .u8 5 wr w.heap.size u4 (ns D) := by
          have := HO.out
          rw [hkm] at this
          rw [hD, mdG_ns]
          have e : l.take m = l.take 59 := by
            have := HM.out
            by_cases h : l.length ≤ 59
            · rw [List.take_of_length_le (by omega), List.take_of_length_le (by omega)]
            · rw [show m = 59 by omega]
          rw [← e]
          exact this
        obtain ⟨AD, cD, hv, hcD, hrD⟩ := Kd.R_reads hOD.toR
        rw [ns_length, hDN] at hv hcD hrD
        subst hv
        have HRD := Aside0.mk hrD
        have HCD := Aside0.mk hcD
        have HBD := HB
        have HEN := KEY D AD cD wr HDD.out HB.out (by rw [hDN]; exact hrD) (by rw [hDN]; exact hcD)
        rw [hDN] at HEN
        have hmp : 0 < m := by have := HM.out; omega
        have hmpi : ¬ ((m : Int) = 0) := by omega
        have hmpb : ((m : Int) == 0) = false := beq_eq_false_iff_ne.2 hmpi
        clear hOD hrD hcD hDN hkm hD hN
        go_wp2_with fail
        refine HEN.out.mono ?_
        rintro e w2 ⟨g, cg, rfl, hg, hcg, R, hRl, hRt, hRc, hRr, hb2⟩
        have HG := Aside0.mk (Nat.le_trans HBD.out.size hg)
        have HRR := Aside0.mk hRr
        have HRL := Aside0.mk hRl
        have HRT := Aside0.mk hRt
        have HRC := Aside0.mk hRc
        have HB2 := Aside0.mk (HBD.out.trans (hb2.mono HBD.out.size))
        have hrd := hRr.reads (by rw [ns_length]; omega)
        have htk := Kd.C_take hrd (m := m) (by rw [ns_length, hRl]; omega)
        rw [ns_take, hRt] at htk
        have HSB := letterbagkit_SameBytes.calls 70 (some ⟨g, 0, none⟩) cg (ns D) AD cD (ns D) true w2 htk (by rw [ns_length, HDN.out]; omega) (by rw [ns_length, HDN.out]; exact Kd.C_below HRD.out hb2) (by rw [ns_length, HDN.out]; exact HCD.out) (same_self (ns D) (by rw [ns_length, HDN.out]; omega))
        rw [ns_length, HDN.out] at HSB
        have HSB := Aside0.mk HSB
        have hNc : m ≤ cg := by omega
        have hN1 : (0 : Int) < (m : Int) ∧ (m : Int) ≤ 59 := by omega
        clear hrd htk hg hRl hRt hRc hRr hb2 HEN
        go_wp2_with fail
        refine HSB.out.mono ?_
        rintro e w3 ⟨rfl, hd3⟩
        have HR3 := Aside0.mk (HRR.out.below hd3.below)
        have HB3 := Aside0.mk (HB2.out.trans (hd3.below.mono HB2.out.size))
        clear hd3
        go_wp2_with fail
        go_ret2
        refine ⟨g, cg, ?_, HG.out, ?_, R, ?_, ?_, HRC.out, HR3.out, HB3.out⟩
        · rw [← HDD.out, HDN.out]; rfl
        · rw [← HDD.out, HDN.out]; exact hcg
        · rw [← HDD.out, HDN.out]; exact HRL.out
        · rw [← HDD.out, HDN.out]; exact HRT.out
end Go.Proofs.YtlifghomejdhnaaDoor
